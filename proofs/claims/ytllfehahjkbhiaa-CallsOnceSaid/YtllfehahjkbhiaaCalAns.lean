/- Calls in memory: Answer, Forget. -/
import Derived.Test.YtllfehahjkbhiaaCal
import Derived.Outline
namespace Go.Proofs.Ytllfehahjkbhiaa
open Go.RowKit Go.Lib
set_option linter.unusedSimpArgs false
set_option linter.unusedVariables false
def pset (id : Int) (f : Kc → Kc) (P : List (Kc × Nat)) : List (Kc × Nat) := P.map fun q => if q.1.id = id then (f q.1, q.2) else q
theorem pset_fst (id : Int) (f : Kc → Kc) (P : List (Kc × Nat)) : (pset id f P).map Prod.fst = kset id f (P.map Prod.fst) := by
  unfold pset kset
  rw [List.map_map, List.map_map]
  refine List.map_congr_left fun q _ => ?_
  simp only [Function.comp_apply]
  split <;> rfl
theorem pset_snd (id : Int) (f : Kc → Kc) (P : List (Kc × Nat)) : (pset id f P).map Prod.snd = P.map Prod.snd := by
  unfold pset
  rw [List.map_map]
  refine List.map_congr_left fun q _ => ?_
  simp only [Function.comp_apply]
  split <;> rfl
theorem pset_ent (id : Int) {f : Kc → Kc} (hf : ∀ k, (f k).id = k.id) (P : List (Kc × Nat)) : pent (pset id f P) = pent P := by
  unfold pent pset
  rw [List.map_map]
  refine List.map_congr_left fun q _ => ?_
  simp only [Function.comp_apply]
  split <;> simp [hf]
/-- One call is turned. -/
theorem cal_set {w' : World} {c bm t : Nat} {Ft' : List Nat} {P : List (Kc × Nat)} {es : Array MapEntry} {ck : Nat} {C : Cs} {id : Int} {f : Kc → Kc} {p : Kc × Nat} (hf : ∀ k, (f k).id = k.id) (hP : P.map Prod.fst = C.L) (hn : (P.map Prod.snd).Nodup) (hpf : pfind id P = some p)
    (hok : CsOk ⟨C.me, C.next, kset id f C.L⟩) (hc : w'.heap[c]? = some (.cells #[.int .i64 C.me, .int .i64 C.next, .map (some bm), .pointer (some ⟨t, 0, none⟩)] 65 (0, 0))) (hb : w'.heap[bm]? = some (.map es ck)) (hM : MapOf es ck (pent P))
    (hk : ∀ q ∈ P, q.2 ≠ p.2 → w'.heap[q.2]? = some (.cells q.1.cells 73 (0, 0))) (hp : w'.heap[p.2]? = some (.cells (f p.1).cells 73 (0, 0))) (hT : TimAt w' t Ft' (tmsOf (kset id f C.L))) (h1 : bm ∉ Ft') (h2 : c ∉ Ft') (h3 : ∀ q ∈ P, q.2 ∉ Ft') :
    CalAt w' c (c :: bm :: (P.map Prod.snd ++ Ft')) ⟨C.me, C.next, kset id f C.L⟩ := by
  have hsort : (P.map Prod.fst).Pairwise fun a b => a.id < b.id := by
    have := hok.sorted
    dsimp only at this
    rw [hP]
    unfold kset at this
    rw [List.pairwise_map] at this
    exact this.imp (fun {a b} h => by split at h <;> split at h <;> simpa [hf] using h)
  refine ⟨hok, bm, t, Ft', pset id f P, es, ck, hc, hb, by rw [pset_ent id hf]; exact hM, by rw [pset_fst, hP], ?_, by rw [pset_snd]; exact hn, hT, by rw [pset_snd], h1, h2, ?_⟩
  · intro q hq
    obtain ⟨q0, hq0, rfl⟩ := List.mem_map.1 hq
    obtain ⟨hpm, hpid⟩ := pfind_some hpf
    by_cases e : q0.1.id = id
    · rw [if_pos e]
      have h1 : q0.1 = p.1 := id_uniq hsort (List.mem_map.2 ⟨q0, hq0, rfl⟩) (List.mem_map.2 ⟨p, hpm, rfl⟩) (e.trans hpid.symm)
      have h2 : q0 = p := by
        obtain ⟨i, hi⟩ := List.getElem?_of_mem hq0
        obtain ⟨j, hj⟩ := List.getElem?_of_mem hpm
        have a1 : ((P.map Prod.fst).map Kc.id)[i]? = some p.1.id := by simp [hi, h1]
        have a2 : ((P.map Prod.fst).map Kc.id)[j]? = some p.1.id := by simp [hj]
        have hij := (List.getElem?_inj (List.getElem?_eq_some_iff.1 a1).1 (ids_nodup hsort)).1 (a1.trans a2.symm)
        subst hij
        rw [hi] at hj; exact Option.some.inj hj
      subst h2; exact hp
    · rw [if_neg e]
      refine hk q0 hq0 fun e2 => e ?_
      obtain ⟨i, hi⟩ := List.getElem?_of_mem hq0
      obtain ⟨j, hj⟩ := List.getElem?_of_mem hpm
      have a1 : (P.map Prod.snd)[i]? = some p.2 := by simp [hi, e2]
      have a2 : (P.map Prod.snd)[j]? = some p.2 := by simp [hj]
      have hij := (List.getElem?_inj (List.getElem?_eq_some_iff.1 a1).1 hn).1 (a1.trans a2.symm)
      subst hij
      rw [hi] at hj
      rw [Option.some.inj hj, hpid]
  · intro q hq
    obtain ⟨q0, hq0, rfl⟩ := List.mem_map.1 hq
    have := h3 q0 hq0
    split <;> exact this
def Mg.cells (m : Mg) : List Value := [.int .i64 m.kind, .int .i64 m.from_, .int .i64 m.to, .int .i64 m.id, .string m.body]
theorem calAnswer_nil (m : Mg) (w : World) : Calls Try.prog 17 #[.pointer none, .agg m.cells.toArray] w fun e w' => e = .returned (.bool false) ∧ Only [] w w' := by
  show Calls Try.prog 17 #[.pointer none, .agg #[.int .i64 m.kind, .int .i64 m.from_, .int .i64 m.to, .int .i64 m.id, .string m.body]] w _
  go_enter Try.func17, Try.ntmps17
  go_wp2_with fail
  refine reg_begin 16 (S := fun _ => True) (by rfl) (by kernel_rfl) trivial (fun hHeld => ?_)
  refine next_on 0 (by simp only [List.getElem?_toArray, List.getElem?_cons_succ, List.getElem?_cons_zero]; exact rfl) (by kernel_rfl) (by kernel_rfl) (by kernel_rfl) (by rfl) (fun _ _ _ h => h) hHeld (by intro w hSw; (try dsimp only at hSw); go_simp; (try with_reducible rfl)) ?_; (try simp only [Act.put, List.setIfInBounds_toArray, List.set_cons_zero, List.set_cons_succ])
  refine next_on 1 (by simp only [List.getElem?_toArray, List.getElem?_cons_succ, List.getElem?_cons_zero]; exact rfl) (by kernel_rfl) (by kernel_rfl) (by kernel_rfl) (by rfl) (fun _ _ _ h => h) hHeld (by intro w hSw; (try dsimp only at hSw); go_simp; (try with_reducible rfl)) ?_; (try simp only [Act.put, List.setIfInBounds_toArray, List.set_cons_zero, List.set_cons_succ])
  refine next_on 2 (by simp only [List.getElem?_toArray, List.getElem?_cons_succ, List.getElem?_cons_zero]; exact rfl) (by kernel_rfl) (by kernel_rfl) (by kernel_rfl) (by rfl) (fun _ _ _ h => h) hHeld (by intro w hSw; (try dsimp only at hSw); go_simp; (try with_reducible rfl)) ?_; (try simp only [Act.put, List.setIfInBounds_toArray, List.set_cons_zero, List.set_cons_succ])
  refine next_off 3 (by simp only [List.getElem?_toArray, List.getElem?_cons_succ, List.getElem?_cons_zero]; exact rfl) (by kernel_rfl) (by kernel_rfl) (by kernel_rfl) (by rfl) (fun _ _ _ h => h) hHeld ?_; (try simp only [Act.put, List.setIfInBounds_toArray, List.set_cons_zero, List.set_cons_succ])
  refine next_off 4 (by simp only [List.getElem?_toArray, List.getElem?_cons_succ, List.getElem?_cons_zero]; exact rfl) (by kernel_rfl) (by kernel_rfl) (by kernel_rfl) (by rfl) (fun _ _ _ h => h) hHeld ?_; (try simp only [Act.put, List.setIfInBounds_toArray, List.set_cons_zero, List.set_cons_succ])
  refine next_off 5 (by simp only [List.getElem?_toArray, List.getElem?_cons_succ, List.getElem?_cons_zero]; exact rfl) (by kernel_rfl) (by kernel_rfl) (by kernel_rfl) (by rfl) (fun _ _ _ h => h) hHeld ?_; (try simp only [Act.put, List.setIfInBounds_toArray, List.set_cons_zero, List.set_cons_succ])
  refine next_on 6 (by simp only [List.getElem?_toArray, List.getElem?_cons_succ, List.getElem?_cons_zero]; exact rfl) (by kernel_rfl) (by kernel_rfl) (by kernel_rfl) (by rfl) (fun _ _ _ h => h) hHeld (by intro w hSw; (try dsimp only at hSw); go_simp; (try with_reducible rfl)) ?_; (try simp only [Act.put, List.setIfInBounds_toArray, List.set_cons_zero, List.set_cons_succ])
  refine next_on 7 (by simp only [List.getElem?_toArray, List.getElem?_cons_succ, List.getElem?_cons_zero]; exact rfl) (by kernel_rfl) (by kernel_rfl) (by kernel_rfl) (by rfl) (fun _ _ _ h => h) hHeld (by intro w hSw; (try dsimp only at hSw); go_simp; (try with_reducible rfl)) ?_; (try simp only [Act.put, List.setIfInBounds_toArray, List.set_cons_zero, List.set_cons_succ])
  refine next_off 8 (by simp only [List.getElem?_toArray, List.getElem?_cons_succ, List.getElem?_cons_zero]; exact rfl) (by kernel_rfl) (by kernel_rfl) (by kernel_rfl) (by rfl) (fun _ _ _ h => h) hHeld ?_; (try simp only [Act.put, List.setIfInBounds_toArray, List.set_cons_zero, List.set_cons_succ])
  refine next_off 9 (by simp only [List.getElem?_toArray, List.getElem?_cons_succ, List.getElem?_cons_zero]; exact rfl) (by kernel_rfl) (by kernel_rfl) (by kernel_rfl) (by rfl) (fun _ _ _ h => h) hHeld ?_; (try simp only [Act.put, List.setIfInBounds_toArray, List.set_cons_zero, List.set_cons_succ])
  refine next_off 10 (by simp only [List.getElem?_toArray, List.getElem?_cons_succ, List.getElem?_cons_zero]; exact rfl) (by kernel_rfl) (by kernel_rfl) (by kernel_rfl) (by rfl) (fun _ _ _ h => h) hHeld ?_; (try simp only [Act.put, List.setIfInBounds_toArray, List.set_cons_zero, List.set_cons_succ])
  refine next_off 11 (by simp only [List.getElem?_toArray, List.getElem?_cons_succ, List.getElem?_cons_zero]; exact rfl) (by kernel_rfl) (by kernel_rfl) (by kernel_rfl) (by rfl) (fun _ _ _ h => h) hHeld ?_; (try simp only [Act.put, List.setIfInBounds_toArray, List.set_cons_zero, List.set_cons_succ])
  refine next_off 12 (by simp only [List.getElem?_toArray, List.getElem?_cons_succ, List.getElem?_cons_zero]; exact rfl) (by kernel_rfl) (by kernel_rfl) (by kernel_rfl) (by rfl) (fun _ _ _ h => h) hHeld ?_; (try simp only [Act.put, List.setIfInBounds_toArray, List.set_cons_zero, List.set_cons_succ])
  refine next_off 13 (by simp only [List.getElem?_toArray, List.getElem?_cons_succ, List.getElem?_cons_zero]; exact rfl) (by kernel_rfl) (by kernel_rfl) (by kernel_rfl) (by rfl) (fun _ _ _ h => h) hHeld ?_; (try simp only [Act.put, List.setIfInBounds_toArray, List.set_cons_zero, List.set_cons_succ])
  refine next_off 14 (by simp only [List.getElem?_toArray, List.getElem?_cons_succ, List.getElem?_cons_zero]; exact rfl) (by kernel_rfl) (by kernel_rfl) (by kernel_rfl) (by rfl) (fun _ _ _ h => h) hHeld ?_; (try simp only [Act.put, List.setIfInBounds_toArray, List.set_cons_zero, List.set_cons_succ])
  refine next_on 15 (by simp only [List.getElem?_toArray, List.getElem?_cons_succ, List.getElem?_cons_zero]; exact rfl) (by kernel_rfl) (by kernel_rfl) (by kernel_rfl) (by rfl) (fun _ _ _ h => h) hHeld (by intro w hSw; (try dsimp only at hSw); go_simp; (try with_reducible rfl)) ?_; (try simp only [Act.put, List.setIfInBounds_toArray, List.set_cons_zero, List.set_cons_succ])
  refine reg_end (by kernel_rfl) ?_ _
  go_wp2_with fail
  go_ret
  exact ⟨rfl, ((Only.refl _ _).alloc _).drew⟩
set_option maxHeartbeats 4000000 in
set_option maxRecDepth 100000 in
theorem calAnswer_at {w : World} {c : Nat} {F : List Nat} {C : Cs} (h : CalAt w c F C) (m : Mg) :
    Calls Try.prog 17 #[.pointer (some ⟨c, 0, none⟩), .agg m.cells.toArray] w fun e w' => e = .returned (.bool (canswer C m).2) ∧ CalAt w' c F (canswer C m).1 ∧ Only F w w' := by
  show Calls Try.prog 17 #[.pointer (some ⟨c, 0, none⟩), .agg #[.int .i64 m.kind, .int .i64 m.from_, .int .i64 m.to, .int .i64 m.id, .string m.body]] w _
  have hOA : Only [] w (w.alloc (.cells #[.int .i64 m.kind, .int .i64 m.from_, .int .i64 m.to, .int .i64 m.id, .string m.body] 32)) := (Only.refl [] w).alloc _
  have hz : (w.alloc (.cells #[.int .i64 m.kind, .int .i64 m.from_, .int .i64 m.to, .int .i64 m.id, .string m.body] 32)).heap[w.heap.size]? = some (.cells #[.int .i64 m.kind, .int .i64 m.from_, .int .i64 m.to, .int .i64 m.id, .string m.body] 32 (0, 0)) := heap_alloc_at rfl
  have hA := h.only hOA (by simp)
  have hlt := h.lt
  have hnF : w.heap.size ∉ F := fun hm => by have := hlt _ hm; omega
  have HA := Lib.hid hA
  have HOA := Lib.hid hOA
  have HNF := Lib.hid hnF
  clear h hOA hlt hnF
  generalize hW : w.alloc (.cells #[.int .i64 m.kind, .int .i64 m.from_, .int .i64 m.to, .int .i64 m.id, .string m.body] 32) = W at *
  generalize hN : w.heap.size = N at *
  have m0 := cell_at (o := 0) hz rfl
  have m1 := cell_at (o := 1) hz rfl
  have m2 := cell_at (o := 2) hz rfl
  have m3 := cell_at (o := 3) hz rfl
  have m4 := cell_at (o := 4) hz rfl
  have HZ := Lib.hid hz
  clear hz hA
  obtain ⟨bm, t, Ft, P, es, ck, hc, hb, hM, hP, hk, hn, hT, rfl, h1, h2, h3⟩ := HA.out.obj
  have c0 := cell_at (o := 0) hc rfl
  have c2 := cell_at (o := 2) hc rfl
  have c3 := cell_at (o := 3) hc rfl
  have hfst := pfind_fst m.id P
  rw [hP] at hfst
  have hgl := pent_get m.id P
  have HC := Lib.hid hc
  have HB := Lib.hid hb
  have HM := Lib.hid hM
  have HP := Lib.hid hP
  have HK := Lib.hid hk
  have HN := Lib.hid hn
  have HT := Lib.hid hT
  have H1 := Lib.hid h1
  have H2 := Lib.hid h2
  have H3 := Lib.hid h3
  clear hc hb hM hP hk hn hT h1 h2 h3
  by_cases hkind : m.kind = 2
  · have e1 : (m.kind != 2) = false := by simp [hkind]
    have K1 := Lib.hid hkind
    clear hkind
    by_cases hto : m.to = C.me
    · have e2 : (m.to != C.me) = false := by simp [hto]
      have K2 := Lib.hid hto
      clear hto
      cases hf : pfind m.id P with
      | none =>
        rw [hf] at hfst hgl
        have hrun : ∀ w' : World, w'.heap[bm]? = some (.map es ck) → (Instr.lookup 61 (.map (some bm)) (.int .i64 m.id) true).run Try.prog w' = .ok (.tuple #[.pointer none, .bool false]) w' := fun w' hb => by
          have := run_mlookup_none (P := Try.prog) (c := true) Try.underlying61 Try.underlying3 (i := _) (z := .pointer none) rfl rfl hb HM.out hgl
          rwa [if_pos rfl] at this
        have HR := Lib.hid hrun
        have hst : canswer C m = (C, false) := by unfold canswer; rw [hfst]; rfl
        rw [hst]
        clear hfst hgl hf hst hrun
        go_enter Try.func17, Try.ntmps17
        go_wp2_with fail
        refine reg_begin 16 (S := fun w' => (w'.cell? ⟨N, 0, none⟩ = some (.int .i64 m.kind) ∧ w'.cell? ⟨N, 2, none⟩ = some (.int .i64 m.to)) ∧ w'.cell? ⟨c, 0, none⟩ = some (.int .i64 C.me)) (by rfl) (by kernel_rfl) ⟨⟨m0, m2⟩, c0⟩ (fun hHeld => ?_)
        refine next_on 0 (by simp only [List.getElem?_toArray, List.getElem?_cons_succ, List.getElem?_cons_zero]; exact rfl) (by kernel_rfl) (by kernel_rfl) (by kernel_rfl) (by rfl) (fun _ _ _ h => h) hHeld (by intro w hSw; (try dsimp only at hSw); go_simp; (try with_reducible rfl)) ?_; (try simp only [Act.put, List.setIfInBounds_toArray, List.set_cons_zero, List.set_cons_succ])
        refine next_on 1 (by simp only [List.getElem?_toArray, List.getElem?_cons_succ, List.getElem?_cons_zero]; exact rfl) (by kernel_rfl) (by kernel_rfl) (by kernel_rfl) (by rfl) (fun _ _ _ h => h) hHeld (by intro w hSw; (try dsimp only at hSw); go_simp; (try with_reducible rfl)) ?_; (try simp only [Act.put, List.setIfInBounds_toArray, List.set_cons_zero, List.set_cons_succ])
        refine next_on 2 (by simp only [List.getElem?_toArray, List.getElem?_cons_succ, List.getElem?_cons_zero]; exact rfl) (by kernel_rfl) (by kernel_rfl) (by kernel_rfl) (by rfl) (fun _ _ _ h => h) hHeld (by intro w hSw; (try dsimp only at hSw); go_simp; (try with_reducible rfl)) ?_; (try simp only [Act.put, List.setIfInBounds_toArray, List.set_cons_zero, List.set_cons_succ])
        refine next_on 3 (by simp only [List.getElem?_toArray, List.getElem?_cons_succ, List.getElem?_cons_zero]; exact rfl) (by kernel_rfl) (by kernel_rfl) (by kernel_rfl) (by rfl) (fun _ _ _ h => h) hHeld (by intro w hSw; (try dsimp only at hSw); go_simp; (try with_reducible rfl)) ?_; (try simp only [Act.put, List.setIfInBounds_toArray, List.set_cons_zero, List.set_cons_succ])
        refine next_on 4 (by simp only [List.getElem?_toArray, List.getElem?_cons_succ, List.getElem?_cons_zero]; exact rfl) (by kernel_rfl) (by kernel_rfl) (by kernel_rfl) (by rfl) (fun _ _ _ h => h) hHeld (by intro w hSw; (try dsimp only at hSw); go_simp; (try with_reducible rfl)) ?_; (try simp only [Act.put, List.setIfInBounds_toArray, List.set_cons_zero, List.set_cons_succ])
        refine next_on 5 (by simp only [List.getElem?_toArray, List.getElem?_cons_succ, List.getElem?_cons_zero]; exact rfl) (by kernel_rfl) (by kernel_rfl) (by kernel_rfl) (by rfl) (fun _ _ _ h => h) hHeld (by intro w hSw; (try dsimp only at hSw); go_simp; (try with_reducible rfl)) ?_; (try simp only [Act.put, List.setIfInBounds_toArray, List.set_cons_zero, List.set_cons_succ])
        refine next_on 6 (by simp only [List.getElem?_toArray, List.getElem?_cons_succ, List.getElem?_cons_zero]; exact rfl) (by kernel_rfl) (by kernel_rfl) (by kernel_rfl) (by rfl) (fun _ _ _ h => h) hHeld (by intro w hSw; (try dsimp only at hSw); go_simp; (try with_reducible rfl)) ?_; (try simp only [Act.put, List.setIfInBounds_toArray, List.set_cons_zero, List.set_cons_succ])
        refine next_on 7 (by simp only [List.getElem?_toArray, List.getElem?_cons_succ, List.getElem?_cons_zero]; exact rfl) (by kernel_rfl) (by kernel_rfl) (by kernel_rfl) (by rfl) (fun _ _ _ h => h) hHeld (by intro w hSw; (try dsimp only at hSw); go_simp; (try with_reducible rfl)) ?_; (try simp only [Act.put, List.setIfInBounds_toArray, List.set_cons_zero, List.set_cons_succ])
        refine next_on 8 (by simp only [List.getElem?_toArray, List.getElem?_cons_succ, List.getElem?_cons_zero]; exact rfl) (by kernel_rfl) (by kernel_rfl) (by kernel_rfl) (by rfl) (fun _ _ _ h => h) hHeld (by intro w hSw; (try dsimp only at hSw); go_simp; (try with_reducible rfl)) ?_; (try simp only [Act.put, List.setIfInBounds_toArray, List.set_cons_zero, List.set_cons_succ])
        refine next_on 9 (by simp only [List.getElem?_toArray, List.getElem?_cons_succ, List.getElem?_cons_zero]; exact rfl) (by kernel_rfl) (by kernel_rfl) (by kernel_rfl) (by rfl) (fun _ _ _ h => h) hHeld (by intro w hSw; (try dsimp only at hSw); go_simp; (try with_reducible rfl)) ?_; (try simp only [Act.put, List.setIfInBounds_toArray, List.set_cons_zero, List.set_cons_succ])
        refine next_on 10 (by simp only [List.getElem?_toArray, List.getElem?_cons_succ, List.getElem?_cons_zero]; exact rfl) (by kernel_rfl) (by kernel_rfl) (by kernel_rfl) (by rfl) (fun _ _ _ h => h) hHeld (by intro w hSw; (try dsimp only at hSw); go_simp; (try with_reducible rfl)) ?_; (try simp only [Act.put, List.setIfInBounds_toArray, List.set_cons_zero, List.set_cons_succ])
        refine next_on 11 (by simp only [List.getElem?_toArray, List.getElem?_cons_succ, List.getElem?_cons_zero]; exact rfl) (by kernel_rfl) (by kernel_rfl) (by kernel_rfl) (by rfl) (fun _ _ _ h => h) hHeld (by intro w hSw; (try dsimp only at hSw); go_simp; (try with_reducible rfl)) ?_; (try simp only [Act.put, List.setIfInBounds_toArray, List.set_cons_zero, List.set_cons_succ])
        refine next_on 12 (by simp only [List.getElem?_toArray, List.getElem?_cons_succ, List.getElem?_cons_zero]; exact rfl) (by kernel_rfl) (by kernel_rfl) (by kernel_rfl) (by rfl) (fun _ _ _ h => h) hHeld (by intro w hSw; (try dsimp only at hSw); go_simp; (try with_reducible rfl)) ?_; (try simp only [Act.put, List.setIfInBounds_toArray, List.set_cons_zero, List.set_cons_succ])
        refine next_on 13 (by simp only [List.getElem?_toArray, List.getElem?_cons_succ, List.getElem?_cons_zero]; exact rfl) (by kernel_rfl) (by kernel_rfl) (by kernel_rfl) (by rfl) (fun _ _ _ h => h) hHeld (by intro w hSw; (try dsimp only at hSw); go_simp; (try with_reducible rfl)) ?_; (try simp only [Act.put, List.setIfInBounds_toArray, List.set_cons_zero, List.set_cons_succ])
        refine next_on 14 (by simp only [List.getElem?_toArray, List.getElem?_cons_succ, List.getElem?_cons_zero]; exact rfl) (by kernel_rfl) (by kernel_rfl) (by kernel_rfl) (by rfl) (fun _ _ _ h => h) hHeld (by intro w hSw; (try dsimp only at hSw); go_simp; (try with_reducible rfl)) ?_; (try simp only [Act.put, List.setIfInBounds_toArray, List.set_cons_zero, List.set_cons_succ])
        refine next_on 15 (by simp only [List.getElem?_toArray, List.getElem?_cons_succ, List.getElem?_cons_zero]; exact rfl) (by kernel_rfl) (by kernel_rfl) (by kernel_rfl) (by rfl) (fun _ _ _ h => h) hHeld (by intro w hSw; (try dsimp only at hSw); go_simp; (try with_reducible rfl)) ?_; (try simp only [Act.put, List.setIfInBounds_toArray, List.set_cons_zero, List.set_cons_succ])
        refine reg_end (by kernel_rfl) ?_ _
        go_wp2_with fail
        refine reg_begin 12 (S := fun w' => (w'.cell? ⟨c, 2, none⟩ = some (.map (some bm)) ∧ w'.cell? ⟨N, 3, none⟩ = some (.int .i64 m.id)) ∧ (Instr.lookup 61 (.map (some bm)) (.int .i64 m.id) true).run Try.prog w' = .ok (.tuple #[.pointer none, .bool false]) w') (by rfl) (by kernel_rfl) ⟨⟨c2, m3⟩, HR.out _ HB.out⟩ (fun hHeld => ?_)
        refine next_on 0 (by simp only [List.getElem?_toArray, List.getElem?_cons_succ, List.getElem?_cons_zero]; exact rfl) (by kernel_rfl) (by kernel_rfl) (by kernel_rfl) (by rfl) (fun _ _ _ h => h) hHeld (by intro w hSw; (try dsimp only at hSw); go_simp; (try with_reducible rfl)) ?_; (try simp only [Act.put, List.setIfInBounds_toArray, List.set_cons_zero, List.set_cons_succ])
        refine next_on 1 (by simp only [List.getElem?_toArray, List.getElem?_cons_succ, List.getElem?_cons_zero]; exact rfl) (by kernel_rfl) (by kernel_rfl) (by kernel_rfl) (by rfl) (fun _ _ _ h => h) hHeld (by intro w hSw; (try dsimp only at hSw); go_simp; (try with_reducible rfl)) ?_; (try simp only [Act.put, List.setIfInBounds_toArray, List.set_cons_zero, List.set_cons_succ])
        refine next_on 2 (by simp only [List.getElem?_toArray, List.getElem?_cons_succ, List.getElem?_cons_zero]; exact rfl) (by kernel_rfl) (by kernel_rfl) (by kernel_rfl) (by rfl) (fun _ _ _ h => h) hHeld (by intro w hSw; (try dsimp only at hSw); go_simp; (try with_reducible rfl)) ?_; (try simp only [Act.put, List.setIfInBounds_toArray, List.set_cons_zero, List.set_cons_succ])
        refine next_on 3 (by simp only [List.getElem?_toArray, List.getElem?_cons_succ, List.getElem?_cons_zero]; exact rfl) (by kernel_rfl) (by kernel_rfl) (by kernel_rfl) (by rfl) (fun _ _ _ h => h) hHeld (by intro w hSw; (try dsimp only at hSw); go_simp; (try with_reducible rfl)) ?_; (try simp only [Act.put, List.setIfInBounds_toArray, List.set_cons_zero, List.set_cons_succ])
        refine next_on 4 (by simp only [List.getElem?_toArray, List.getElem?_cons_succ, List.getElem?_cons_zero]; exact rfl) (by kernel_rfl) (by kernel_rfl) (by kernel_rfl) (by rfl) (fun _ _ _ h => h) hHeld (by intro w hSw; (try dsimp only at hSw); go_simp; (try with_reducible rfl)) ?_; (try simp only [Act.put, List.setIfInBounds_toArray, List.set_cons_zero, List.set_cons_succ])
        refine next_on 5 (by simp only [List.getElem?_toArray, List.getElem?_cons_succ, List.getElem?_cons_zero]; exact rfl) (by kernel_rfl) (by kernel_rfl) (by kernel_rfl) (by rfl) (fun _ _ _ h => h) hHeld (by intro w hSw; (try dsimp only at hSw); go_simp; (try with_reducible rfl)) ?_; (try simp only [Act.put, List.setIfInBounds_toArray, List.set_cons_zero, List.set_cons_succ])
        refine next_on 6 (by simp only [List.getElem?_toArray, List.getElem?_cons_succ, List.getElem?_cons_zero]; exact rfl) (by kernel_rfl) (by kernel_rfl) (by kernel_rfl) (by rfl) (fun _ _ _ h => h) hHeld (by intro w hSw; (try dsimp only at hSw); go_simp; (try with_reducible rfl)) ?_; (try simp only [Act.put, List.setIfInBounds_toArray, List.set_cons_zero, List.set_cons_succ])
        refine next_on 7 (by simp only [List.getElem?_toArray, List.getElem?_cons_succ, List.getElem?_cons_zero]; exact rfl) (by kernel_rfl) (by kernel_rfl) (by kernel_rfl) (by rfl) (fun _ _ _ h => h) hHeld (by intro w hSw; (try dsimp only at hSw); go_simp; (try with_reducible rfl)) ?_; (try simp only [Act.put, List.setIfInBounds_toArray, List.set_cons_zero, List.set_cons_succ])
        refine next_on 8 (by simp only [List.getElem?_toArray, List.getElem?_cons_succ, List.getElem?_cons_zero]; exact rfl) (by kernel_rfl) (by kernel_rfl) (by kernel_rfl) (by rfl) (fun _ _ _ h => h) hHeld (by intro w hSw; (try dsimp only at hSw); go_simp; (try with_reducible rfl)) ?_; (try simp only [Act.put, List.setIfInBounds_toArray, List.set_cons_zero, List.set_cons_succ])
        refine next_on 9 (by simp only [List.getElem?_toArray, List.getElem?_cons_succ, List.getElem?_cons_zero]; exact rfl) (by kernel_rfl) (by kernel_rfl) (by kernel_rfl) (by rfl) (fun _ _ _ h => h) hHeld (by intro w hSw; (try dsimp only at hSw); go_simp; (try with_reducible rfl)) ?_; (try simp only [Act.put, List.setIfInBounds_toArray, List.set_cons_zero, List.set_cons_succ])
        refine next_on 10 (by simp only [List.getElem?_toArray, List.getElem?_cons_succ, List.getElem?_cons_zero]; exact rfl) (by kernel_rfl) (by kernel_rfl) (by kernel_rfl) (by rfl) (fun _ _ _ h => h) hHeld (by intro w hSw; (try dsimp only at hSw); go_simp; (try with_reducible rfl)) ?_; (try simp only [Act.put, List.setIfInBounds_toArray, List.set_cons_zero, List.set_cons_succ])
        refine next_on 11 (by simp only [List.getElem?_toArray, List.getElem?_cons_succ, List.getElem?_cons_zero]; exact rfl) (by kernel_rfl) (by kernel_rfl) (by kernel_rfl) (by rfl) (fun _ _ _ h => h) hHeld (by intro w hSw; (try dsimp only at hSw); go_simp; (try with_reducible rfl)) ?_; (try simp only [Act.put, List.setIfInBounds_toArray, List.set_cons_zero, List.set_cons_succ])
        refine reg_end (by kernel_rfl) ?_ _
        go_wp2_with fail
        refine reg_begin 19 (S := fun _ => True) (by rfl) (by kernel_rfl) trivial (fun hHeld => ?_)
        refine next_on 0 (by simp only [List.getElem?_toArray, List.getElem?_cons_succ, List.getElem?_cons_zero]; exact rfl) (by kernel_rfl) (by kernel_rfl) (by kernel_rfl) (by rfl) (fun _ _ _ h => h) hHeld (by intro w hSw; (try dsimp only at hSw); go_simp; (try with_reducible rfl)) ?_; (try simp only [Act.put, List.setIfInBounds_toArray, List.set_cons_zero, List.set_cons_succ])
        refine next_on 1 (by simp only [List.getElem?_toArray, List.getElem?_cons_succ, List.getElem?_cons_zero]; exact rfl) (by kernel_rfl) (by kernel_rfl) (by kernel_rfl) (by rfl) (fun _ _ _ h => h) hHeld (by intro w hSw; (try dsimp only at hSw); go_simp; (try with_reducible rfl)) ?_; (try simp only [Act.put, List.setIfInBounds_toArray, List.set_cons_zero, List.set_cons_succ])
        refine next_on 2 (by simp only [List.getElem?_toArray, List.getElem?_cons_succ, List.getElem?_cons_zero]; exact rfl) (by kernel_rfl) (by kernel_rfl) (by kernel_rfl) (by rfl) (fun _ _ _ h => h) hHeld (by intro w hSw; (try dsimp only at hSw); go_simp; (try with_reducible rfl)) ?_; (try simp only [Act.put, List.setIfInBounds_toArray, List.set_cons_zero, List.set_cons_succ])
        refine next_off 3 (by simp only [List.getElem?_toArray, List.getElem?_cons_succ, List.getElem?_cons_zero]; exact rfl) (by kernel_rfl) (by kernel_rfl) (by kernel_rfl) (by rfl) (fun _ _ _ h => h) hHeld ?_; (try simp only [Act.put, List.setIfInBounds_toArray, List.set_cons_zero, List.set_cons_succ])
        refine next_off 4 (by simp only [List.getElem?_toArray, List.getElem?_cons_succ, List.getElem?_cons_zero]; exact rfl) (by kernel_rfl) (by kernel_rfl) (by kernel_rfl) (by rfl) (fun _ _ _ h => h) hHeld ?_; (try simp only [Act.put, List.setIfInBounds_toArray, List.set_cons_zero, List.set_cons_succ])
        refine next_off 5 (by simp only [List.getElem?_toArray, List.getElem?_cons_succ, List.getElem?_cons_zero]; exact rfl) (by kernel_rfl) (by kernel_rfl) (by kernel_rfl) (by rfl) (fun _ _ _ h => h) hHeld ?_; (try simp only [Act.put, List.setIfInBounds_toArray, List.set_cons_zero, List.set_cons_succ])
        refine next_off 6 (by simp only [List.getElem?_toArray, List.getElem?_cons_succ, List.getElem?_cons_zero]; exact rfl) (by kernel_rfl) (by kernel_rfl) (by kernel_rfl) (by rfl) (fun _ _ _ h => h) hHeld ?_; (try simp only [Act.put, List.setIfInBounds_toArray, List.set_cons_zero, List.set_cons_succ])
        refine next_off 7 (by simp only [List.getElem?_toArray, List.getElem?_cons_succ, List.getElem?_cons_zero]; exact rfl) (by kernel_rfl) (by kernel_rfl) (by kernel_rfl) (by rfl) (fun _ _ _ h => h) hHeld ?_; (try simp only [Act.put, List.setIfInBounds_toArray, List.set_cons_zero, List.set_cons_succ])
        refine next_off 8 (by simp only [List.getElem?_toArray, List.getElem?_cons_succ, List.getElem?_cons_zero]; exact rfl) (by kernel_rfl) (by kernel_rfl) (by kernel_rfl) (by rfl) (fun _ _ _ h => h) hHeld ?_; (try simp only [Act.put, List.setIfInBounds_toArray, List.set_cons_zero, List.set_cons_succ])
        refine next_on 9 (by simp only [List.getElem?_toArray, List.getElem?_cons_succ, List.getElem?_cons_zero]; exact rfl) (by kernel_rfl) (by kernel_rfl) (by kernel_rfl) (by rfl) (fun _ _ _ h => h) hHeld (by intro w hSw; (try dsimp only at hSw); go_simp; (try with_reducible rfl)) ?_; (try simp only [Act.put, List.setIfInBounds_toArray, List.set_cons_zero, List.set_cons_succ])
        refine next_on 10 (by simp only [List.getElem?_toArray, List.getElem?_cons_succ, List.getElem?_cons_zero]; exact rfl) (by kernel_rfl) (by kernel_rfl) (by kernel_rfl) (by rfl) (fun _ _ _ h => h) hHeld (by intro w hSw; (try dsimp only at hSw); go_simp; (try with_reducible rfl)) ?_; (try simp only [Act.put, List.setIfInBounds_toArray, List.set_cons_zero, List.set_cons_succ])
        refine next_off 11 (by simp only [List.getElem?_toArray, List.getElem?_cons_succ, List.getElem?_cons_zero]; exact rfl) (by kernel_rfl) (by kernel_rfl) (by kernel_rfl) (by rfl) (fun _ _ _ h => h) hHeld ?_; (try simp only [Act.put, List.setIfInBounds_toArray, List.set_cons_zero, List.set_cons_succ])
        refine next_off 12 (by simp only [List.getElem?_toArray, List.getElem?_cons_succ, List.getElem?_cons_zero]; exact rfl) (by kernel_rfl) (by kernel_rfl) (by kernel_rfl) (by rfl) (fun _ _ _ h => h) hHeld ?_; (try simp only [Act.put, List.setIfInBounds_toArray, List.set_cons_zero, List.set_cons_succ])
        refine next_off 13 (by simp only [List.getElem?_toArray, List.getElem?_cons_succ, List.getElem?_cons_zero]; exact rfl) (by kernel_rfl) (by kernel_rfl) (by kernel_rfl) (by rfl) (fun _ _ _ h => h) hHeld ?_; (try simp only [Act.put, List.setIfInBounds_toArray, List.set_cons_zero, List.set_cons_succ])
        refine next_off 14 (by simp only [List.getElem?_toArray, List.getElem?_cons_succ, List.getElem?_cons_zero]; exact rfl) (by kernel_rfl) (by kernel_rfl) (by kernel_rfl) (by rfl) (fun _ _ _ h => h) hHeld ?_; (try simp only [Act.put, List.setIfInBounds_toArray, List.set_cons_zero, List.set_cons_succ])
        refine next_off 15 (by simp only [List.getElem?_toArray, List.getElem?_cons_succ, List.getElem?_cons_zero]; exact rfl) (by kernel_rfl) (by kernel_rfl) (by kernel_rfl) (by rfl) (fun _ _ _ h => h) hHeld ?_; (try simp only [Act.put, List.setIfInBounds_toArray, List.set_cons_zero, List.set_cons_succ])
        refine next_off 16 (by simp only [List.getElem?_toArray, List.getElem?_cons_succ, List.getElem?_cons_zero]; exact rfl) (by kernel_rfl) (by kernel_rfl) (by kernel_rfl) (by rfl) (fun _ _ _ h => h) hHeld ?_; (try simp only [Act.put, List.setIfInBounds_toArray, List.set_cons_zero, List.set_cons_succ])
        refine next_off 17 (by simp only [List.getElem?_toArray, List.getElem?_cons_succ, List.getElem?_cons_zero]; exact rfl) (by kernel_rfl) (by kernel_rfl) (by kernel_rfl) (by rfl) (fun _ _ _ h => h) hHeld ?_; (try simp only [Act.put, List.setIfInBounds_toArray, List.set_cons_zero, List.set_cons_succ])
        refine next_on 18 (by simp only [List.getElem?_toArray, List.getElem?_cons_succ, List.getElem?_cons_zero]; exact rfl) (by kernel_rfl) (by kernel_rfl) (by kernel_rfl) (by rfl) (fun _ _ _ h => h) hHeld (by intro w hSw; (try dsimp only at hSw); go_simp; (try with_reducible rfl)) ?_; (try simp only [Act.put, List.setIfInBounds_toArray, List.set_cons_zero, List.set_cons_succ])
        refine reg_end (by kernel_rfl) ?_ _
        go_wp2_with fail
        go_ret
        exact ⟨rfl, HA.out.only (((Only.refl [] W).drew.drew).drew) (by simp), ((HOA.out.mono (by simp)).drew.drew).drew⟩
      | some p =>
        obtain ⟨hp, hpid⟩ := pfind_some hf
        rw [hf] at hfst hgl
        have hrun : ∀ w' : World, w'.heap[bm]? = some (.map es ck) → (Instr.lookup 61 (.map (some bm)) (.int .i64 m.id) true).run Try.prog w' = .ok (.tuple #[.pointer (some ⟨p.2, 0, none⟩), .bool true]) w' := fun w' hb => by
          have := run_mlookup_some (P := Try.prog) (c := true) Try.underlying61 Try.underlying3 hb HM.out hgl
          rwa [if_pos rfl] at this
        have HR := Lib.hid hrun
        have hzk := HK.out p hp
        have d0 : W.cell? ⟨p.2, 0, none⟩ = some (.int .i64 p.1.to) := cell_at hzk rfl
        have d4 : W.cell? ⟨p.2, 4, none⟩ = some (.int .i64 p.1.what) := cell_at hzk rfl
        have d5 : W.cell? ⟨p.2, 5, none⟩ = some (.string p.1.answer) := cell_at hzk rfl
        have HZK := Lib.hid hzk
        have f4 : W.frozen? ⟨p.2, 4, none⟩ = false := frozen_at hzk
        have f5 : W.frozen? ⟨p.2, 5, none⟩ = false := frozen_at hzk
        by_cases hw : p.1.what = 1
        · have hbl : p.1.answer = ByteArray.empty := HA.out.ok.blank p.1 (by rw [← HP.out]; exact List.mem_map.2 ⟨p, hp, rfl⟩) hw
          rw [hbl] at d5
          rw [hw] at d4
          by_cases hfr : p.1.to = m.from_
          · have e3 : (p.1.to != m.from_) = false := by simp [hfr]
            have hst : canswer C m = (⟨C.me, C.next, kset m.id (Kc.answered m.body) C.L⟩, true) := by
              unfold canswer; rw [hfst]; dsimp only [Option.map_some]; rw [if_pos ⟨K1.out, K2.out, hw, hfr⟩]
            rw [hst]
            have HPF := Lib.hid hf
            have HPI := Lib.hid hpid
            have HPM := Lib.hid hp
            clear hfst hgl hf hst hrun hzk hp hpid hbl hw hfr
            go_enter Try.func17, Try.ntmps17
            go_wp2_with fail
            refine reg_begin 16 (S := fun w' => (w'.cell? ⟨N, 0, none⟩ = some (.int .i64 m.kind) ∧ w'.cell? ⟨N, 2, none⟩ = some (.int .i64 m.to)) ∧ w'.cell? ⟨c, 0, none⟩ = some (.int .i64 C.me)) (by rfl) (by kernel_rfl) ⟨⟨m0, m2⟩, c0⟩ (fun hHeld => ?_)
            refine next_on 0 (by simp only [List.getElem?_toArray, List.getElem?_cons_succ, List.getElem?_cons_zero]; exact rfl) (by kernel_rfl) (by kernel_rfl) (by kernel_rfl) (by rfl) (fun _ _ _ h => h) hHeld (by intro w hSw; (try dsimp only at hSw); go_simp; (try with_reducible rfl)) ?_; (try simp only [Act.put, List.setIfInBounds_toArray, List.set_cons_zero, List.set_cons_succ])
            refine next_on 1 (by simp only [List.getElem?_toArray, List.getElem?_cons_succ, List.getElem?_cons_zero]; exact rfl) (by kernel_rfl) (by kernel_rfl) (by kernel_rfl) (by rfl) (fun _ _ _ h => h) hHeld (by intro w hSw; (try dsimp only at hSw); go_simp; (try with_reducible rfl)) ?_; (try simp only [Act.put, List.setIfInBounds_toArray, List.set_cons_zero, List.set_cons_succ])
            refine next_on 2 (by simp only [List.getElem?_toArray, List.getElem?_cons_succ, List.getElem?_cons_zero]; exact rfl) (by kernel_rfl) (by kernel_rfl) (by kernel_rfl) (by rfl) (fun _ _ _ h => h) hHeld (by intro w hSw; (try dsimp only at hSw); go_simp; (try with_reducible rfl)) ?_; (try simp only [Act.put, List.setIfInBounds_toArray, List.set_cons_zero, List.set_cons_succ])
            refine next_on 3 (by simp only [List.getElem?_toArray, List.getElem?_cons_succ, List.getElem?_cons_zero]; exact rfl) (by kernel_rfl) (by kernel_rfl) (by kernel_rfl) (by rfl) (fun _ _ _ h => h) hHeld (by intro w hSw; (try dsimp only at hSw); go_simp; (try with_reducible rfl)) ?_; (try simp only [Act.put, List.setIfInBounds_toArray, List.set_cons_zero, List.set_cons_succ])
            refine next_on 4 (by simp only [List.getElem?_toArray, List.getElem?_cons_succ, List.getElem?_cons_zero]; exact rfl) (by kernel_rfl) (by kernel_rfl) (by kernel_rfl) (by rfl) (fun _ _ _ h => h) hHeld (by intro w hSw; (try dsimp only at hSw); go_simp; (try with_reducible rfl)) ?_; (try simp only [Act.put, List.setIfInBounds_toArray, List.set_cons_zero, List.set_cons_succ])
            refine next_on 5 (by simp only [List.getElem?_toArray, List.getElem?_cons_succ, List.getElem?_cons_zero]; exact rfl) (by kernel_rfl) (by kernel_rfl) (by kernel_rfl) (by rfl) (fun _ _ _ h => h) hHeld (by intro w hSw; (try dsimp only at hSw); go_simp; (try with_reducible rfl)) ?_; (try simp only [Act.put, List.setIfInBounds_toArray, List.set_cons_zero, List.set_cons_succ])
            refine next_on 6 (by simp only [List.getElem?_toArray, List.getElem?_cons_succ, List.getElem?_cons_zero]; exact rfl) (by kernel_rfl) (by kernel_rfl) (by kernel_rfl) (by rfl) (fun _ _ _ h => h) hHeld (by intro w hSw; (try dsimp only at hSw); go_simp; (try with_reducible rfl)) ?_; (try simp only [Act.put, List.setIfInBounds_toArray, List.set_cons_zero, List.set_cons_succ])
            refine next_on 7 (by simp only [List.getElem?_toArray, List.getElem?_cons_succ, List.getElem?_cons_zero]; exact rfl) (by kernel_rfl) (by kernel_rfl) (by kernel_rfl) (by rfl) (fun _ _ _ h => h) hHeld (by intro w hSw; (try dsimp only at hSw); go_simp; (try with_reducible rfl)) ?_; (try simp only [Act.put, List.setIfInBounds_toArray, List.set_cons_zero, List.set_cons_succ])
            refine next_on 8 (by simp only [List.getElem?_toArray, List.getElem?_cons_succ, List.getElem?_cons_zero]; exact rfl) (by kernel_rfl) (by kernel_rfl) (by kernel_rfl) (by rfl) (fun _ _ _ h => h) hHeld (by intro w hSw; (try dsimp only at hSw); go_simp; (try with_reducible rfl)) ?_; (try simp only [Act.put, List.setIfInBounds_toArray, List.set_cons_zero, List.set_cons_succ])
            refine next_on 9 (by simp only [List.getElem?_toArray, List.getElem?_cons_succ, List.getElem?_cons_zero]; exact rfl) (by kernel_rfl) (by kernel_rfl) (by kernel_rfl) (by rfl) (fun _ _ _ h => h) hHeld (by intro w hSw; (try dsimp only at hSw); go_simp; (try with_reducible rfl)) ?_; (try simp only [Act.put, List.setIfInBounds_toArray, List.set_cons_zero, List.set_cons_succ])
            refine next_on 10 (by simp only [List.getElem?_toArray, List.getElem?_cons_succ, List.getElem?_cons_zero]; exact rfl) (by kernel_rfl) (by kernel_rfl) (by kernel_rfl) (by rfl) (fun _ _ _ h => h) hHeld (by intro w hSw; (try dsimp only at hSw); go_simp; (try with_reducible rfl)) ?_; (try simp only [Act.put, List.setIfInBounds_toArray, List.set_cons_zero, List.set_cons_succ])
            refine next_on 11 (by simp only [List.getElem?_toArray, List.getElem?_cons_succ, List.getElem?_cons_zero]; exact rfl) (by kernel_rfl) (by kernel_rfl) (by kernel_rfl) (by rfl) (fun _ _ _ h => h) hHeld (by intro w hSw; (try dsimp only at hSw); go_simp; (try with_reducible rfl)) ?_; (try simp only [Act.put, List.setIfInBounds_toArray, List.set_cons_zero, List.set_cons_succ])
            refine next_on 12 (by simp only [List.getElem?_toArray, List.getElem?_cons_succ, List.getElem?_cons_zero]; exact rfl) (by kernel_rfl) (by kernel_rfl) (by kernel_rfl) (by rfl) (fun _ _ _ h => h) hHeld (by intro w hSw; (try dsimp only at hSw); go_simp; (try with_reducible rfl)) ?_; (try simp only [Act.put, List.setIfInBounds_toArray, List.set_cons_zero, List.set_cons_succ])
            refine next_on 13 (by simp only [List.getElem?_toArray, List.getElem?_cons_succ, List.getElem?_cons_zero]; exact rfl) (by kernel_rfl) (by kernel_rfl) (by kernel_rfl) (by rfl) (fun _ _ _ h => h) hHeld (by intro w hSw; (try dsimp only at hSw); go_simp; (try with_reducible rfl)) ?_; (try simp only [Act.put, List.setIfInBounds_toArray, List.set_cons_zero, List.set_cons_succ])
            refine next_on 14 (by simp only [List.getElem?_toArray, List.getElem?_cons_succ, List.getElem?_cons_zero]; exact rfl) (by kernel_rfl) (by kernel_rfl) (by kernel_rfl) (by rfl) (fun _ _ _ h => h) hHeld (by intro w hSw; (try dsimp only at hSw); go_simp; (try with_reducible rfl)) ?_; (try simp only [Act.put, List.setIfInBounds_toArray, List.set_cons_zero, List.set_cons_succ])
            refine next_on 15 (by simp only [List.getElem?_toArray, List.getElem?_cons_succ, List.getElem?_cons_zero]; exact rfl) (by kernel_rfl) (by kernel_rfl) (by kernel_rfl) (by rfl) (fun _ _ _ h => h) hHeld (by intro w hSw; (try dsimp only at hSw); go_simp; (try with_reducible rfl)) ?_; (try simp only [Act.put, List.setIfInBounds_toArray, List.set_cons_zero, List.set_cons_succ])
            refine reg_end (by kernel_rfl) ?_ _
            go_wp2_with fail
            refine reg_begin 12 (S := fun w' => (w'.cell? ⟨c, 2, none⟩ = some (.map (some bm)) ∧ w'.cell? ⟨N, 3, none⟩ = some (.int .i64 m.id)) ∧ (Instr.lookup 61 (.map (some bm)) (.int .i64 m.id) true).run Try.prog w' = .ok (.tuple #[.pointer (some ⟨p.2, 0, none⟩), .bool true]) w') (by rfl) (by kernel_rfl) ⟨⟨c2, m3⟩, HR.out _ HB.out⟩ (fun hHeld => ?_)
            refine next_on 0 (by simp only [List.getElem?_toArray, List.getElem?_cons_succ, List.getElem?_cons_zero]; exact rfl) (by kernel_rfl) (by kernel_rfl) (by kernel_rfl) (by rfl) (fun _ _ _ h => h) hHeld (by intro w hSw; (try dsimp only at hSw); go_simp; (try with_reducible rfl)) ?_; (try simp only [Act.put, List.setIfInBounds_toArray, List.set_cons_zero, List.set_cons_succ])
            refine next_on 1 (by simp only [List.getElem?_toArray, List.getElem?_cons_succ, List.getElem?_cons_zero]; exact rfl) (by kernel_rfl) (by kernel_rfl) (by kernel_rfl) (by rfl) (fun _ _ _ h => h) hHeld (by intro w hSw; (try dsimp only at hSw); go_simp; (try with_reducible rfl)) ?_; (try simp only [Act.put, List.setIfInBounds_toArray, List.set_cons_zero, List.set_cons_succ])
            refine next_on 2 (by simp only [List.getElem?_toArray, List.getElem?_cons_succ, List.getElem?_cons_zero]; exact rfl) (by kernel_rfl) (by kernel_rfl) (by kernel_rfl) (by rfl) (fun _ _ _ h => h) hHeld (by intro w hSw; (try dsimp only at hSw); go_simp; (try with_reducible rfl)) ?_; (try simp only [Act.put, List.setIfInBounds_toArray, List.set_cons_zero, List.set_cons_succ])
            refine next_on 3 (by simp only [List.getElem?_toArray, List.getElem?_cons_succ, List.getElem?_cons_zero]; exact rfl) (by kernel_rfl) (by kernel_rfl) (by kernel_rfl) (by rfl) (fun _ _ _ h => h) hHeld (by intro w hSw; (try dsimp only at hSw); go_simp; (try with_reducible rfl)) ?_; (try simp only [Act.put, List.setIfInBounds_toArray, List.set_cons_zero, List.set_cons_succ])
            refine next_on 4 (by simp only [List.getElem?_toArray, List.getElem?_cons_succ, List.getElem?_cons_zero]; exact rfl) (by kernel_rfl) (by kernel_rfl) (by kernel_rfl) (by rfl) (fun _ _ _ h => h) hHeld (by intro w hSw; (try dsimp only at hSw); go_simp; (try with_reducible rfl)) ?_; (try simp only [Act.put, List.setIfInBounds_toArray, List.set_cons_zero, List.set_cons_succ])
            refine next_on 5 (by simp only [List.getElem?_toArray, List.getElem?_cons_succ, List.getElem?_cons_zero]; exact rfl) (by kernel_rfl) (by kernel_rfl) (by kernel_rfl) (by rfl) (fun _ _ _ h => h) hHeld (by intro w hSw; (try dsimp only at hSw); go_simp; (try with_reducible rfl)) ?_; (try simp only [Act.put, List.setIfInBounds_toArray, List.set_cons_zero, List.set_cons_succ])
            refine next_on 6 (by simp only [List.getElem?_toArray, List.getElem?_cons_succ, List.getElem?_cons_zero]; exact rfl) (by kernel_rfl) (by kernel_rfl) (by kernel_rfl) (by rfl) (fun _ _ _ h => h) hHeld (by intro w hSw; (try dsimp only at hSw); go_simp; (try with_reducible rfl)) ?_; (try simp only [Act.put, List.setIfInBounds_toArray, List.set_cons_zero, List.set_cons_succ])
            refine next_on 7 (by simp only [List.getElem?_toArray, List.getElem?_cons_succ, List.getElem?_cons_zero]; exact rfl) (by kernel_rfl) (by kernel_rfl) (by kernel_rfl) (by rfl) (fun _ _ _ h => h) hHeld (by intro w hSw; (try dsimp only at hSw); go_simp; (try with_reducible rfl)) ?_; (try simp only [Act.put, List.setIfInBounds_toArray, List.set_cons_zero, List.set_cons_succ])
            refine next_on 8 (by simp only [List.getElem?_toArray, List.getElem?_cons_succ, List.getElem?_cons_zero]; exact rfl) (by kernel_rfl) (by kernel_rfl) (by kernel_rfl) (by rfl) (fun _ _ _ h => h) hHeld (by intro w hSw; (try dsimp only at hSw); go_simp; (try with_reducible rfl)) ?_; (try simp only [Act.put, List.setIfInBounds_toArray, List.set_cons_zero, List.set_cons_succ])
            refine next_on 9 (by simp only [List.getElem?_toArray, List.getElem?_cons_succ, List.getElem?_cons_zero]; exact rfl) (by kernel_rfl) (by kernel_rfl) (by kernel_rfl) (by rfl) (fun _ _ _ h => h) hHeld (by intro w hSw; (try dsimp only at hSw); go_simp; (try with_reducible rfl)) ?_; (try simp only [Act.put, List.setIfInBounds_toArray, List.set_cons_zero, List.set_cons_succ])
            refine next_on 10 (by simp only [List.getElem?_toArray, List.getElem?_cons_succ, List.getElem?_cons_zero]; exact rfl) (by kernel_rfl) (by kernel_rfl) (by kernel_rfl) (by rfl) (fun _ _ _ h => h) hHeld (by intro w hSw; (try dsimp only at hSw); go_simp; (try with_reducible rfl)) ?_; (try simp only [Act.put, List.setIfInBounds_toArray, List.set_cons_zero, List.set_cons_succ])
            refine next_on 11 (by simp only [List.getElem?_toArray, List.getElem?_cons_succ, List.getElem?_cons_zero]; exact rfl) (by kernel_rfl) (by kernel_rfl) (by kernel_rfl) (by rfl) (fun _ _ _ h => h) hHeld (by intro w hSw; (try dsimp only at hSw); go_simp; (try with_reducible rfl)) ?_; (try simp only [Act.put, List.setIfInBounds_toArray, List.set_cons_zero, List.set_cons_succ])
            refine reg_end (by kernel_rfl) ?_ _
            go_wp2_with fail
            refine reg_begin 19 (S := fun w' => (w'.cell? ⟨p.2, 4, none⟩ = some (.int .i64 1) ∧ w'.cell? ⟨p.2, 5, none⟩ = some (.string ByteArray.empty)) ∧ (w'.cell? ⟨p.2, 0, none⟩ = some (.int .i64 p.1.to) ∧ w'.cell? ⟨N, 1, none⟩ = some (.int .i64 m.from_))) (by rfl) (by kernel_rfl) ⟨⟨d4, d5⟩, ⟨d0, m1⟩⟩ (fun hHeld => ?_)
            refine next_on 0 (by simp only [List.getElem?_toArray, List.getElem?_cons_succ, List.getElem?_cons_zero]; exact rfl) (by kernel_rfl) (by kernel_rfl) (by kernel_rfl) (by rfl) (fun _ _ _ h => h) hHeld (by intro w hSw; (try dsimp only at hSw); go_simp; (try with_reducible rfl)) ?_; (try simp only [Act.put, List.setIfInBounds_toArray, List.set_cons_zero, List.set_cons_succ])
            refine next_on 1 (by simp only [List.getElem?_toArray, List.getElem?_cons_succ, List.getElem?_cons_zero]; exact rfl) (by kernel_rfl) (by kernel_rfl) (by kernel_rfl) (by rfl) (fun _ _ _ h => h) hHeld (by intro w hSw; (try dsimp only at hSw); go_simp; (try with_reducible rfl)) ?_; (try simp only [Act.put, List.setIfInBounds_toArray, List.set_cons_zero, List.set_cons_succ])
            refine next_on 2 (by simp only [List.getElem?_toArray, List.getElem?_cons_succ, List.getElem?_cons_zero]; exact rfl) (by kernel_rfl) (by kernel_rfl) (by kernel_rfl) (by rfl) (fun _ _ _ h => h) hHeld (by intro w hSw; (try dsimp only at hSw); go_simp; (try with_reducible rfl)) ?_; (try simp only [Act.put, List.setIfInBounds_toArray, List.set_cons_zero, List.set_cons_succ])
            refine next_on 3 (by simp only [List.getElem?_toArray, List.getElem?_cons_succ, List.getElem?_cons_zero]; exact rfl) (by kernel_rfl) (by kernel_rfl) (by kernel_rfl) (by rfl) (fun _ _ _ h => h) hHeld (by intro w hSw; (try dsimp only at hSw); go_simp; (try with_reducible rfl)) ?_; (try simp only [Act.put, List.setIfInBounds_toArray, List.set_cons_zero, List.set_cons_succ])
            refine next_on 4 (by simp only [List.getElem?_toArray, List.getElem?_cons_succ, List.getElem?_cons_zero]; exact rfl) (by kernel_rfl) (by kernel_rfl) (by kernel_rfl) (by rfl) (fun _ _ _ h => h) hHeld (by intro w hSw; (try dsimp only at hSw); go_simp; (try with_reducible rfl)) ?_; (try simp only [Act.put, List.setIfInBounds_toArray, List.set_cons_zero, List.set_cons_succ])
            refine next_on 5 (by simp only [List.getElem?_toArray, List.getElem?_cons_succ, List.getElem?_cons_zero]; exact rfl) (by kernel_rfl) (by kernel_rfl) (by kernel_rfl) (by rfl) (fun _ _ _ h => h) hHeld (by intro w hSw; (try dsimp only at hSw); go_simp; (try with_reducible rfl)) ?_; (try simp only [Act.put, List.setIfInBounds_toArray, List.set_cons_zero, List.set_cons_succ])
            refine next_on 6 (by simp only [List.getElem?_toArray, List.getElem?_cons_succ, List.getElem?_cons_zero]; exact rfl) (by kernel_rfl) (by kernel_rfl) (by kernel_rfl) (by rfl) (fun _ _ _ h => h) hHeld (by intro w hSw; (try dsimp only at hSw); go_simp; (try with_reducible rfl)) ?_; (try simp only [Act.put, List.setIfInBounds_toArray, List.set_cons_zero, List.set_cons_succ])
            refine next_on 7 (by simp only [List.getElem?_toArray, List.getElem?_cons_succ, List.getElem?_cons_zero]; exact rfl) (by kernel_rfl) (by kernel_rfl) (by kernel_rfl) (by rfl) (fun _ _ _ h => h) hHeld (by intro w hSw; (try dsimp only at hSw); go_simp; (try with_reducible rfl)) ?_; (try simp only [Act.put, List.setIfInBounds_toArray, List.set_cons_zero, List.set_cons_succ])
            refine next_on 8 (by simp only [List.getElem?_toArray, List.getElem?_cons_succ, List.getElem?_cons_zero]; exact rfl) (by kernel_rfl) (by kernel_rfl) (by kernel_rfl) (by rfl) (fun _ _ _ h => h) hHeld (by intro w hSw; (try dsimp only at hSw); go_simp; (try with_reducible rfl)) ?_; (try simp only [Act.put, List.setIfInBounds_toArray, List.set_cons_zero, List.set_cons_succ])
            refine next_on 9 (by simp only [List.getElem?_toArray, List.getElem?_cons_succ, List.getElem?_cons_zero]; exact rfl) (by kernel_rfl) (by kernel_rfl) (by kernel_rfl) (by rfl) (fun _ _ _ h => h) hHeld (by intro w hSw; (try dsimp only at hSw); go_simp; (try with_reducible rfl)) ?_; (try simp only [Act.put, List.setIfInBounds_toArray, List.set_cons_zero, List.set_cons_succ])
            refine next_on 10 (by simp only [List.getElem?_toArray, List.getElem?_cons_succ, List.getElem?_cons_zero]; exact rfl) (by kernel_rfl) (by kernel_rfl) (by kernel_rfl) (by rfl) (fun _ _ _ h => h) hHeld (by intro w hSw; (try dsimp only at hSw); go_simp; (try with_reducible rfl)) ?_; (try simp only [Act.put, List.setIfInBounds_toArray, List.set_cons_zero, List.set_cons_succ])
            refine next_on 11 (by simp only [List.getElem?_toArray, List.getElem?_cons_succ, List.getElem?_cons_zero]; exact rfl) (by kernel_rfl) (by kernel_rfl) (by kernel_rfl) (by rfl) (fun _ _ _ h => h) hHeld (by intro w hSw; (try dsimp only at hSw); go_simp; (try with_reducible rfl)) ?_; (try simp only [Act.put, List.setIfInBounds_toArray, List.set_cons_zero, List.set_cons_succ])
            refine next_on 12 (by simp only [List.getElem?_toArray, List.getElem?_cons_succ, List.getElem?_cons_zero]; exact rfl) (by kernel_rfl) (by kernel_rfl) (by kernel_rfl) (by rfl) (fun _ _ _ h => h) hHeld (by intro w hSw; (try dsimp only at hSw); go_simp; (try with_reducible rfl)) ?_; (try simp only [Act.put, List.setIfInBounds_toArray, List.set_cons_zero, List.set_cons_succ])
            refine next_on 13 (by simp only [List.getElem?_toArray, List.getElem?_cons_succ, List.getElem?_cons_zero]; exact rfl) (by kernel_rfl) (by kernel_rfl) (by kernel_rfl) (by rfl) (fun _ _ _ h => h) hHeld (by intro w hSw; (try dsimp only at hSw); go_simp; (try with_reducible rfl)) ?_; (try simp only [Act.put, List.setIfInBounds_toArray, List.set_cons_zero, List.set_cons_succ])
            refine next_on 14 (by simp only [List.getElem?_toArray, List.getElem?_cons_succ, List.getElem?_cons_zero]; exact rfl) (by kernel_rfl) (by kernel_rfl) (by kernel_rfl) (by rfl) (fun _ _ _ h => h) hHeld (by intro w hSw; (try dsimp only at hSw); go_simp; (try with_reducible rfl)) ?_; (try simp only [Act.put, List.setIfInBounds_toArray, List.set_cons_zero, List.set_cons_succ])
            refine next_on 15 (by simp only [List.getElem?_toArray, List.getElem?_cons_succ, List.getElem?_cons_zero]; exact rfl) (by kernel_rfl) (by kernel_rfl) (by kernel_rfl) (by rfl) (fun _ _ _ h => h) hHeld (by intro w hSw; (try dsimp only at hSw); go_simp; (try with_reducible rfl)) ?_; (try simp only [Act.put, List.setIfInBounds_toArray, List.set_cons_zero, List.set_cons_succ])
            refine next_on 16 (by simp only [List.getElem?_toArray, List.getElem?_cons_succ, List.getElem?_cons_zero]; exact rfl) (by kernel_rfl) (by kernel_rfl) (by kernel_rfl) (by rfl) (fun _ _ _ h => h) hHeld (by intro w hSw; (try dsimp only at hSw); go_simp; (try with_reducible rfl)) ?_; (try simp only [Act.put, List.setIfInBounds_toArray, List.set_cons_zero, List.set_cons_succ])
            refine next_on 17 (by simp only [List.getElem?_toArray, List.getElem?_cons_succ, List.getElem?_cons_zero]; exact rfl) (by kernel_rfl) (by kernel_rfl) (by kernel_rfl) (by rfl) (fun _ _ _ h => h) hHeld (by intro w hSw; (try dsimp only at hSw); go_simp; (try with_reducible rfl)) ?_; (try simp only [Act.put, List.setIfInBounds_toArray, List.set_cons_zero, List.set_cons_succ])
            refine next_on 18 (by simp only [List.getElem?_toArray, List.getElem?_cons_succ, List.getElem?_cons_zero]; exact rfl) (by kernel_rfl) (by kernel_rfl) (by kernel_rfl) (by rfl) (fun _ _ _ h => h) hHeld (by intro w hSw; (try dsimp only at hSw); go_simp; (try with_reducible rfl)) ?_; (try simp only [Act.put, List.setIfInBounds_toArray, List.set_cons_zero, List.set_cons_succ])
            refine reg_end (by kernel_rfl) ?_ _
            go_wp2_with fail
            have hcp : c ≠ p.2 := fun e => by have := HC.out; rw [e, HZK.out] at this; simp [Kc.cells] at this
            have hbp : bm ≠ p.2 := fun e => by have := HB.out; rw [e, HZK.out] at this; simp at this
            have hNp : N ≠ p.2 := fun e => HNF.out (by rw [e]; simp only [List.mem_cons, List.mem_append, List.mem_map]; exact .inr (.inr (.inl ⟨p, HPM.out, rfl⟩)))
            have hpz := heap_store (o := 5) (u := .string m.body) (heap_store (o := 4) (u := .int .i64 2) HZK.out)
            have hOV : Only [p.2] W ((W.setCell ⟨p.2, 4, none⟩ (.int .i64 2)).setCell ⟨p.2, 5, none⟩ (.string m.body)) := ((Only.refl [p.2] W).setCell (p := ⟨p.2, 4, none⟩) (.inl (by simp)) _).setCell (p := ⟨p.2, 5, none⟩) (.inl (by simp)) _
            have hcV := hOV.keep HC.out (by simpa using hcp)
            have hbV := hOV.keep HB.out (by simpa using hbp)
            have hTV := HT.out.only hOV (fun b hb => by simp; rintro rfl; exact H3.out p HPM.out hb)
            have hkV : ∀ q ∈ P, q.2 ≠ p.2 → ((W.setCell ⟨p.2, 4, none⟩ (.int .i64 2)).setCell ⟨p.2, 5, none⟩ (.string m.body)).heap[q.2]? = some (.cells q.1.cells 73 (0, 0)) := fun q hq hne => hOV.keep (HK.out q hq) (by simpa using hne)
            have hm3 := hOV.cell m3 (by simpa using hNp)
            generalize (W.setCell ⟨p.2, 4, none⟩ (.int .i64 2)).setCell ⟨p.2, 5, none⟩ (.string m.body) = V at *
            have g3 : V.cell? ⟨c, 3, none⟩ = some (.pointer (some ⟨t, 0, none⟩)) := cell_at hcV rfl
            have gm : V.cell? ⟨N, 3, none⟩ = some (.int .i64 m.id) := hm3
            have HPZ := Lib.hid hpz
            have HOV := Lib.hid hOV
            have HCV := Lib.hid hcV
            have HBV := Lib.hid hbV
            have HTV := Lib.hid hTV
            have HKV := Lib.hid hkV
            clear hpz hOV hcV hbV hTV hkV hm3 hcp hbp hNp d0 d4 d5 f4 f5 c0 c2 c3 m0 m1 m2 m3 m4
            refine reg_begin 7 (S := fun w' => w'.cell? ⟨c, 3, none⟩ = some (.pointer (some ⟨t, 0, none⟩)) ∧ w'.cell? ⟨N, 3, none⟩ = some (.int .i64 m.id)) (by rfl) (by kernel_rfl) ⟨g3, gm⟩ (fun hHeld => ?_)
            refine next_on 0 (by simp only [List.getElem?_toArray, List.getElem?_cons_succ, List.getElem?_cons_zero]; exact rfl) (by kernel_rfl) (by kernel_rfl) (by kernel_rfl) (by rfl) (fun _ _ _ h => h) hHeld (by intro w hSw; (try dsimp only at hSw); go_simp; (try with_reducible rfl)) ?_; (try simp only [Act.put, List.setIfInBounds_toArray, List.set_cons_zero, List.set_cons_succ])
            refine next_on 1 (by simp only [List.getElem?_toArray, List.getElem?_cons_succ, List.getElem?_cons_zero]; exact rfl) (by kernel_rfl) (by kernel_rfl) (by kernel_rfl) (by rfl) (fun _ _ _ h => h) hHeld (by intro w hSw; (try dsimp only at hSw); go_simp; (try with_reducible rfl)) ?_; (try simp only [Act.put, List.setIfInBounds_toArray, List.set_cons_zero, List.set_cons_succ])
            refine next_on 2 (by simp only [List.getElem?_toArray, List.getElem?_cons_succ, List.getElem?_cons_zero]; exact rfl) (by kernel_rfl) (by kernel_rfl) (by kernel_rfl) (by rfl) (fun _ _ _ h => h) hHeld (by intro w hSw; (try dsimp only at hSw); go_simp; (try with_reducible rfl)) ?_; (try simp only [Act.put, List.setIfInBounds_toArray, List.set_cons_zero, List.set_cons_succ])
            refine next_on 3 (by simp only [List.getElem?_toArray, List.getElem?_cons_succ, List.getElem?_cons_zero]; exact rfl) (by kernel_rfl) (by kernel_rfl) (by kernel_rfl) (by rfl) (fun _ _ _ h => h) hHeld (by intro w hSw; (try dsimp only at hSw); go_simp; (try with_reducible rfl)) ?_; (try simp only [Act.put, List.setIfInBounds_toArray, List.set_cons_zero, List.set_cons_succ])
            refine next_on 4 (by simp only [List.getElem?_toArray, List.getElem?_cons_succ, List.getElem?_cons_zero]; exact rfl) (by kernel_rfl) (by kernel_rfl) (by kernel_rfl) (by rfl) (fun _ _ _ h => h) hHeld (by intro w hSw; (try dsimp only at hSw); go_simp; (try with_reducible rfl)) ?_; (try simp only [Act.put, List.setIfInBounds_toArray, List.set_cons_zero, List.set_cons_succ])
            refine next_on 5 (by simp only [List.getElem?_toArray, List.getElem?_cons_succ, List.getElem?_cons_zero]; exact rfl) (by kernel_rfl) (by kernel_rfl) (by kernel_rfl) (by rfl) (fun _ _ _ h => h) hHeld (by intro w hSw; (try dsimp only at hSw); go_simp; (try with_reducible rfl)) ?_; (try simp only [Act.put, List.setIfInBounds_toArray, List.set_cons_zero, List.set_cons_succ])
            refine next_call 6 (by kernel_rfl) (by simp only [List.getElem?_toArray, List.getElem?_cons_succ, List.getElem?_cons_zero]; exact rfl) (by rfl) (fun K hK => ?_)
            go_simp
            refine (timStop_at (HTV.out.only (Only.refl [] V).drew.drew.drew.drew (by simp)) _).mono ?_
            rintro e w9 ⟨rfl, hT9, hO9⟩
            have hO9' := (Only.refl Ft V).drew.drew.drew.drew.trans hO9
            have q3 := hO9'.cell g3 H2.out
            have qm := hO9'.cell gm (fun hm => HNF.out (by simp [hm]))
            have HT9 := Lib.hid hT9
            have HO9 := Lib.hid hO9'
            clear hT9 hO9 hO9'
            (first | go_wp2_with fail | skip)
            refine hK.out _ _ ⟨q3, qm⟩ (fun hHeld => ?_)
            clear hK K
            (try simp only [Act.put, List.setIfInBounds_toArray, List.set_cons_zero, List.set_cons_succ])
            refine reg_end (by kernel_rfl) ?_ _
            go_wp2_with fail
            go_ret
            have hT10 := HT9.out
            rw [close_tms HA.out.ok.sorted (f := Kc.answered m.body) (fun _ => rfl) (fun k e => by simp [Kc.answered] at e)] at hT10
            have hok := canswer_ok HA.out.ok m
            have hp9 := HO9.out.keep HPZ.out (H3.out p HPM.out)
            refine ⟨rfl, cal_set (fun _ => rfl) HP.out HN.out HPF.out ?_ (HO9.out.keep HCV.out H2.out) (HO9.out.keep HBV.out H1.out) HM.out (fun q hq hne => HO9.out.keep (HKV.out q hq hne) (H3.out q hq)) hp9 hT10 H1.out H2.out H3.out, ?_⟩
            · exact kset_ok HA.out.ok (fun _ => rfl) (fun k e => by simp [Kc.answered] at e) (fun k hk _ => HA.out.ok.sent k hk) (fun k _ _ e => by simp [Kc.answered] at e) (fun k _ _ => by simp [Kc.answered])
            · refine (HOA.out.mono (by simp)).trans ((HOV.out.mono ?_).trans (HO9.out.mono ?_))
              · intro i hi
                simp at hi; subst hi
                exact .inl (by simp only [List.mem_cons, List.mem_append, List.mem_map]; exact .inr (.inr (.inl ⟨p, HPM.out, rfl⟩)))
              · intro i hi
                exact .inl (by simp [hi])
          · have e3 : (p.1.to != m.from_) = true := by simp [hfr]
            have hst : canswer C m = (C, false) := by
              unfold canswer; rw [hfst]; dsimp only [Option.map_some]; rw [if_neg (fun h => hfr h.2.2.2)]
            rw [hst]
            clear hfst hgl hf hst hrun hzk hp hpid hbl hw hfr
            go_enter Try.func17, Try.ntmps17
            go_wp2_with fail
            refine reg_begin 16 (S := fun w' => (w'.cell? ⟨N, 0, none⟩ = some (.int .i64 m.kind) ∧ w'.cell? ⟨N, 2, none⟩ = some (.int .i64 m.to)) ∧ w'.cell? ⟨c, 0, none⟩ = some (.int .i64 C.me)) (by rfl) (by kernel_rfl) ⟨⟨m0, m2⟩, c0⟩ (fun hHeld => ?_)
            refine next_on 0 (by simp only [List.getElem?_toArray, List.getElem?_cons_succ, List.getElem?_cons_zero]; exact rfl) (by kernel_rfl) (by kernel_rfl) (by kernel_rfl) (by rfl) (fun _ _ _ h => h) hHeld (by intro w hSw; (try dsimp only at hSw); go_simp; (try with_reducible rfl)) ?_; (try simp only [Act.put, List.setIfInBounds_toArray, List.set_cons_zero, List.set_cons_succ])
            refine next_on 1 (by simp only [List.getElem?_toArray, List.getElem?_cons_succ, List.getElem?_cons_zero]; exact rfl) (by kernel_rfl) (by kernel_rfl) (by kernel_rfl) (by rfl) (fun _ _ _ h => h) hHeld (by intro w hSw; (try dsimp only at hSw); go_simp; (try with_reducible rfl)) ?_; (try simp only [Act.put, List.setIfInBounds_toArray, List.set_cons_zero, List.set_cons_succ])
            refine next_on 2 (by simp only [List.getElem?_toArray, List.getElem?_cons_succ, List.getElem?_cons_zero]; exact rfl) (by kernel_rfl) (by kernel_rfl) (by kernel_rfl) (by rfl) (fun _ _ _ h => h) hHeld (by intro w hSw; (try dsimp only at hSw); go_simp; (try with_reducible rfl)) ?_; (try simp only [Act.put, List.setIfInBounds_toArray, List.set_cons_zero, List.set_cons_succ])
            refine next_on 3 (by simp only [List.getElem?_toArray, List.getElem?_cons_succ, List.getElem?_cons_zero]; exact rfl) (by kernel_rfl) (by kernel_rfl) (by kernel_rfl) (by rfl) (fun _ _ _ h => h) hHeld (by intro w hSw; (try dsimp only at hSw); go_simp; (try with_reducible rfl)) ?_; (try simp only [Act.put, List.setIfInBounds_toArray, List.set_cons_zero, List.set_cons_succ])
            refine next_on 4 (by simp only [List.getElem?_toArray, List.getElem?_cons_succ, List.getElem?_cons_zero]; exact rfl) (by kernel_rfl) (by kernel_rfl) (by kernel_rfl) (by rfl) (fun _ _ _ h => h) hHeld (by intro w hSw; (try dsimp only at hSw); go_simp; (try with_reducible rfl)) ?_; (try simp only [Act.put, List.setIfInBounds_toArray, List.set_cons_zero, List.set_cons_succ])
            refine next_on 5 (by simp only [List.getElem?_toArray, List.getElem?_cons_succ, List.getElem?_cons_zero]; exact rfl) (by kernel_rfl) (by kernel_rfl) (by kernel_rfl) (by rfl) (fun _ _ _ h => h) hHeld (by intro w hSw; (try dsimp only at hSw); go_simp; (try with_reducible rfl)) ?_; (try simp only [Act.put, List.setIfInBounds_toArray, List.set_cons_zero, List.set_cons_succ])
            refine next_on 6 (by simp only [List.getElem?_toArray, List.getElem?_cons_succ, List.getElem?_cons_zero]; exact rfl) (by kernel_rfl) (by kernel_rfl) (by kernel_rfl) (by rfl) (fun _ _ _ h => h) hHeld (by intro w hSw; (try dsimp only at hSw); go_simp; (try with_reducible rfl)) ?_; (try simp only [Act.put, List.setIfInBounds_toArray, List.set_cons_zero, List.set_cons_succ])
            refine next_on 7 (by simp only [List.getElem?_toArray, List.getElem?_cons_succ, List.getElem?_cons_zero]; exact rfl) (by kernel_rfl) (by kernel_rfl) (by kernel_rfl) (by rfl) (fun _ _ _ h => h) hHeld (by intro w hSw; (try dsimp only at hSw); go_simp; (try with_reducible rfl)) ?_; (try simp only [Act.put, List.setIfInBounds_toArray, List.set_cons_zero, List.set_cons_succ])
            refine next_on 8 (by simp only [List.getElem?_toArray, List.getElem?_cons_succ, List.getElem?_cons_zero]; exact rfl) (by kernel_rfl) (by kernel_rfl) (by kernel_rfl) (by rfl) (fun _ _ _ h => h) hHeld (by intro w hSw; (try dsimp only at hSw); go_simp; (try with_reducible rfl)) ?_; (try simp only [Act.put, List.setIfInBounds_toArray, List.set_cons_zero, List.set_cons_succ])
            refine next_on 9 (by simp only [List.getElem?_toArray, List.getElem?_cons_succ, List.getElem?_cons_zero]; exact rfl) (by kernel_rfl) (by kernel_rfl) (by kernel_rfl) (by rfl) (fun _ _ _ h => h) hHeld (by intro w hSw; (try dsimp only at hSw); go_simp; (try with_reducible rfl)) ?_; (try simp only [Act.put, List.setIfInBounds_toArray, List.set_cons_zero, List.set_cons_succ])
            refine next_on 10 (by simp only [List.getElem?_toArray, List.getElem?_cons_succ, List.getElem?_cons_zero]; exact rfl) (by kernel_rfl) (by kernel_rfl) (by kernel_rfl) (by rfl) (fun _ _ _ h => h) hHeld (by intro w hSw; (try dsimp only at hSw); go_simp; (try with_reducible rfl)) ?_; (try simp only [Act.put, List.setIfInBounds_toArray, List.set_cons_zero, List.set_cons_succ])
            refine next_on 11 (by simp only [List.getElem?_toArray, List.getElem?_cons_succ, List.getElem?_cons_zero]; exact rfl) (by kernel_rfl) (by kernel_rfl) (by kernel_rfl) (by rfl) (fun _ _ _ h => h) hHeld (by intro w hSw; (try dsimp only at hSw); go_simp; (try with_reducible rfl)) ?_; (try simp only [Act.put, List.setIfInBounds_toArray, List.set_cons_zero, List.set_cons_succ])
            refine next_on 12 (by simp only [List.getElem?_toArray, List.getElem?_cons_succ, List.getElem?_cons_zero]; exact rfl) (by kernel_rfl) (by kernel_rfl) (by kernel_rfl) (by rfl) (fun _ _ _ h => h) hHeld (by intro w hSw; (try dsimp only at hSw); go_simp; (try with_reducible rfl)) ?_; (try simp only [Act.put, List.setIfInBounds_toArray, List.set_cons_zero, List.set_cons_succ])
            refine next_on 13 (by simp only [List.getElem?_toArray, List.getElem?_cons_succ, List.getElem?_cons_zero]; exact rfl) (by kernel_rfl) (by kernel_rfl) (by kernel_rfl) (by rfl) (fun _ _ _ h => h) hHeld (by intro w hSw; (try dsimp only at hSw); go_simp; (try with_reducible rfl)) ?_; (try simp only [Act.put, List.setIfInBounds_toArray, List.set_cons_zero, List.set_cons_succ])
            refine next_on 14 (by simp only [List.getElem?_toArray, List.getElem?_cons_succ, List.getElem?_cons_zero]; exact rfl) (by kernel_rfl) (by kernel_rfl) (by kernel_rfl) (by rfl) (fun _ _ _ h => h) hHeld (by intro w hSw; (try dsimp only at hSw); go_simp; (try with_reducible rfl)) ?_; (try simp only [Act.put, List.setIfInBounds_toArray, List.set_cons_zero, List.set_cons_succ])
            refine next_on 15 (by simp only [List.getElem?_toArray, List.getElem?_cons_succ, List.getElem?_cons_zero]; exact rfl) (by kernel_rfl) (by kernel_rfl) (by kernel_rfl) (by rfl) (fun _ _ _ h => h) hHeld (by intro w hSw; (try dsimp only at hSw); go_simp; (try with_reducible rfl)) ?_; (try simp only [Act.put, List.setIfInBounds_toArray, List.set_cons_zero, List.set_cons_succ])
            refine reg_end (by kernel_rfl) ?_ _
            go_wp2_with fail
            refine reg_begin 12 (S := fun w' => (w'.cell? ⟨c, 2, none⟩ = some (.map (some bm)) ∧ w'.cell? ⟨N, 3, none⟩ = some (.int .i64 m.id)) ∧ (Instr.lookup 61 (.map (some bm)) (.int .i64 m.id) true).run Try.prog w' = .ok (.tuple #[.pointer (some ⟨p.2, 0, none⟩), .bool true]) w') (by rfl) (by kernel_rfl) ⟨⟨c2, m3⟩, HR.out _ HB.out⟩ (fun hHeld => ?_)
            refine next_on 0 (by simp only [List.getElem?_toArray, List.getElem?_cons_succ, List.getElem?_cons_zero]; exact rfl) (by kernel_rfl) (by kernel_rfl) (by kernel_rfl) (by rfl) (fun _ _ _ h => h) hHeld (by intro w hSw; (try dsimp only at hSw); go_simp; (try with_reducible rfl)) ?_; (try simp only [Act.put, List.setIfInBounds_toArray, List.set_cons_zero, List.set_cons_succ])
            refine next_on 1 (by simp only [List.getElem?_toArray, List.getElem?_cons_succ, List.getElem?_cons_zero]; exact rfl) (by kernel_rfl) (by kernel_rfl) (by kernel_rfl) (by rfl) (fun _ _ _ h => h) hHeld (by intro w hSw; (try dsimp only at hSw); go_simp; (try with_reducible rfl)) ?_; (try simp only [Act.put, List.setIfInBounds_toArray, List.set_cons_zero, List.set_cons_succ])
            refine next_on 2 (by simp only [List.getElem?_toArray, List.getElem?_cons_succ, List.getElem?_cons_zero]; exact rfl) (by kernel_rfl) (by kernel_rfl) (by kernel_rfl) (by rfl) (fun _ _ _ h => h) hHeld (by intro w hSw; (try dsimp only at hSw); go_simp; (try with_reducible rfl)) ?_; (try simp only [Act.put, List.setIfInBounds_toArray, List.set_cons_zero, List.set_cons_succ])
            refine next_on 3 (by simp only [List.getElem?_toArray, List.getElem?_cons_succ, List.getElem?_cons_zero]; exact rfl) (by kernel_rfl) (by kernel_rfl) (by kernel_rfl) (by rfl) (fun _ _ _ h => h) hHeld (by intro w hSw; (try dsimp only at hSw); go_simp; (try with_reducible rfl)) ?_; (try simp only [Act.put, List.setIfInBounds_toArray, List.set_cons_zero, List.set_cons_succ])
            refine next_on 4 (by simp only [List.getElem?_toArray, List.getElem?_cons_succ, List.getElem?_cons_zero]; exact rfl) (by kernel_rfl) (by kernel_rfl) (by kernel_rfl) (by rfl) (fun _ _ _ h => h) hHeld (by intro w hSw; (try dsimp only at hSw); go_simp; (try with_reducible rfl)) ?_; (try simp only [Act.put, List.setIfInBounds_toArray, List.set_cons_zero, List.set_cons_succ])
            refine next_on 5 (by simp only [List.getElem?_toArray, List.getElem?_cons_succ, List.getElem?_cons_zero]; exact rfl) (by kernel_rfl) (by kernel_rfl) (by kernel_rfl) (by rfl) (fun _ _ _ h => h) hHeld (by intro w hSw; (try dsimp only at hSw); go_simp; (try with_reducible rfl)) ?_; (try simp only [Act.put, List.setIfInBounds_toArray, List.set_cons_zero, List.set_cons_succ])
            refine next_on 6 (by simp only [List.getElem?_toArray, List.getElem?_cons_succ, List.getElem?_cons_zero]; exact rfl) (by kernel_rfl) (by kernel_rfl) (by kernel_rfl) (by rfl) (fun _ _ _ h => h) hHeld (by intro w hSw; (try dsimp only at hSw); go_simp; (try with_reducible rfl)) ?_; (try simp only [Act.put, List.setIfInBounds_toArray, List.set_cons_zero, List.set_cons_succ])
            refine next_on 7 (by simp only [List.getElem?_toArray, List.getElem?_cons_succ, List.getElem?_cons_zero]; exact rfl) (by kernel_rfl) (by kernel_rfl) (by kernel_rfl) (by rfl) (fun _ _ _ h => h) hHeld (by intro w hSw; (try dsimp only at hSw); go_simp; (try with_reducible rfl)) ?_; (try simp only [Act.put, List.setIfInBounds_toArray, List.set_cons_zero, List.set_cons_succ])
            refine next_on 8 (by simp only [List.getElem?_toArray, List.getElem?_cons_succ, List.getElem?_cons_zero]; exact rfl) (by kernel_rfl) (by kernel_rfl) (by kernel_rfl) (by rfl) (fun _ _ _ h => h) hHeld (by intro w hSw; (try dsimp only at hSw); go_simp; (try with_reducible rfl)) ?_; (try simp only [Act.put, List.setIfInBounds_toArray, List.set_cons_zero, List.set_cons_succ])
            refine next_on 9 (by simp only [List.getElem?_toArray, List.getElem?_cons_succ, List.getElem?_cons_zero]; exact rfl) (by kernel_rfl) (by kernel_rfl) (by kernel_rfl) (by rfl) (fun _ _ _ h => h) hHeld (by intro w hSw; (try dsimp only at hSw); go_simp; (try with_reducible rfl)) ?_; (try simp only [Act.put, List.setIfInBounds_toArray, List.set_cons_zero, List.set_cons_succ])
            refine next_on 10 (by simp only [List.getElem?_toArray, List.getElem?_cons_succ, List.getElem?_cons_zero]; exact rfl) (by kernel_rfl) (by kernel_rfl) (by kernel_rfl) (by rfl) (fun _ _ _ h => h) hHeld (by intro w hSw; (try dsimp only at hSw); go_simp; (try with_reducible rfl)) ?_; (try simp only [Act.put, List.setIfInBounds_toArray, List.set_cons_zero, List.set_cons_succ])
            refine next_on 11 (by simp only [List.getElem?_toArray, List.getElem?_cons_succ, List.getElem?_cons_zero]; exact rfl) (by kernel_rfl) (by kernel_rfl) (by kernel_rfl) (by rfl) (fun _ _ _ h => h) hHeld (by intro w hSw; (try dsimp only at hSw); go_simp; (try with_reducible rfl)) ?_; (try simp only [Act.put, List.setIfInBounds_toArray, List.set_cons_zero, List.set_cons_succ])
            refine reg_end (by kernel_rfl) ?_ _
            go_wp2_with fail
            refine reg_begin 19 (S := fun w' => (w'.cell? ⟨p.2, 4, none⟩ = some (.int .i64 1) ∧ w'.cell? ⟨p.2, 5, none⟩ = some (.string ByteArray.empty)) ∧ (w'.cell? ⟨p.2, 0, none⟩ = some (.int .i64 p.1.to) ∧ w'.cell? ⟨N, 1, none⟩ = some (.int .i64 m.from_))) (by rfl) (by kernel_rfl) ⟨⟨d4, d5⟩, ⟨d0, m1⟩⟩ (fun hHeld => ?_)
            refine next_on 0 (by simp only [List.getElem?_toArray, List.getElem?_cons_succ, List.getElem?_cons_zero]; exact rfl) (by kernel_rfl) (by kernel_rfl) (by kernel_rfl) (by rfl) (fun _ _ _ h => h) hHeld (by intro w hSw; (try dsimp only at hSw); go_simp; (try with_reducible rfl)) ?_; (try simp only [Act.put, List.setIfInBounds_toArray, List.set_cons_zero, List.set_cons_succ])
            refine next_on 1 (by simp only [List.getElem?_toArray, List.getElem?_cons_succ, List.getElem?_cons_zero]; exact rfl) (by kernel_rfl) (by kernel_rfl) (by kernel_rfl) (by rfl) (fun _ _ _ h => h) hHeld (by intro w hSw; (try dsimp only at hSw); go_simp; (try with_reducible rfl)) ?_; (try simp only [Act.put, List.setIfInBounds_toArray, List.set_cons_zero, List.set_cons_succ])
            refine next_on 2 (by simp only [List.getElem?_toArray, List.getElem?_cons_succ, List.getElem?_cons_zero]; exact rfl) (by kernel_rfl) (by kernel_rfl) (by kernel_rfl) (by rfl) (fun _ _ _ h => h) hHeld (by intro w hSw; (try dsimp only at hSw); go_simp; (try with_reducible rfl)) ?_; (try simp only [Act.put, List.setIfInBounds_toArray, List.set_cons_zero, List.set_cons_succ])
            refine next_on 3 (by simp only [List.getElem?_toArray, List.getElem?_cons_succ, List.getElem?_cons_zero]; exact rfl) (by kernel_rfl) (by kernel_rfl) (by kernel_rfl) (by rfl) (fun _ _ _ h => h) hHeld (by intro w hSw; (try dsimp only at hSw); go_simp; (try with_reducible rfl)) ?_; (try simp only [Act.put, List.setIfInBounds_toArray, List.set_cons_zero, List.set_cons_succ])
            refine next_on 4 (by simp only [List.getElem?_toArray, List.getElem?_cons_succ, List.getElem?_cons_zero]; exact rfl) (by kernel_rfl) (by kernel_rfl) (by kernel_rfl) (by rfl) (fun _ _ _ h => h) hHeld (by intro w hSw; (try dsimp only at hSw); go_simp; (try with_reducible rfl)) ?_; (try simp only [Act.put, List.setIfInBounds_toArray, List.set_cons_zero, List.set_cons_succ])
            refine next_on 5 (by simp only [List.getElem?_toArray, List.getElem?_cons_succ, List.getElem?_cons_zero]; exact rfl) (by kernel_rfl) (by kernel_rfl) (by kernel_rfl) (by rfl) (fun _ _ _ h => h) hHeld (by intro w hSw; (try dsimp only at hSw); go_simp; (try with_reducible rfl)) ?_; (try simp only [Act.put, List.setIfInBounds_toArray, List.set_cons_zero, List.set_cons_succ])
            refine next_on 6 (by simp only [List.getElem?_toArray, List.getElem?_cons_succ, List.getElem?_cons_zero]; exact rfl) (by kernel_rfl) (by kernel_rfl) (by kernel_rfl) (by rfl) (fun _ _ _ h => h) hHeld (by intro w hSw; (try dsimp only at hSw); go_simp; (try with_reducible rfl)) ?_; (try simp only [Act.put, List.setIfInBounds_toArray, List.set_cons_zero, List.set_cons_succ])
            refine next_on 7 (by simp only [List.getElem?_toArray, List.getElem?_cons_succ, List.getElem?_cons_zero]; exact rfl) (by kernel_rfl) (by kernel_rfl) (by kernel_rfl) (by rfl) (fun _ _ _ h => h) hHeld (by intro w hSw; (try dsimp only at hSw); go_simp; (try with_reducible rfl)) ?_; (try simp only [Act.put, List.setIfInBounds_toArray, List.set_cons_zero, List.set_cons_succ])
            refine next_on 8 (by simp only [List.getElem?_toArray, List.getElem?_cons_succ, List.getElem?_cons_zero]; exact rfl) (by kernel_rfl) (by kernel_rfl) (by kernel_rfl) (by rfl) (fun _ _ _ h => h) hHeld (by intro w hSw; (try dsimp only at hSw); go_simp; (try with_reducible rfl)) ?_; (try simp only [Act.put, List.setIfInBounds_toArray, List.set_cons_zero, List.set_cons_succ])
            refine next_on 9 (by simp only [List.getElem?_toArray, List.getElem?_cons_succ, List.getElem?_cons_zero]; exact rfl) (by kernel_rfl) (by kernel_rfl) (by kernel_rfl) (by rfl) (fun _ _ _ h => h) hHeld (by intro w hSw; (try dsimp only at hSw); go_simp; (try with_reducible rfl)) ?_; (try simp only [Act.put, List.setIfInBounds_toArray, List.set_cons_zero, List.set_cons_succ])
            refine next_on 10 (by simp only [List.getElem?_toArray, List.getElem?_cons_succ, List.getElem?_cons_zero]; exact rfl) (by kernel_rfl) (by kernel_rfl) (by kernel_rfl) (by rfl) (fun _ _ _ h => h) hHeld (by intro w hSw; (try dsimp only at hSw); go_simp; (try with_reducible rfl)) ?_; (try simp only [Act.put, List.setIfInBounds_toArray, List.set_cons_zero, List.set_cons_succ])
            refine next_on 11 (by simp only [List.getElem?_toArray, List.getElem?_cons_succ, List.getElem?_cons_zero]; exact rfl) (by kernel_rfl) (by kernel_rfl) (by kernel_rfl) (by rfl) (fun _ _ _ h => h) hHeld (by intro w hSw; (try dsimp only at hSw); go_simp; (try with_reducible rfl)) ?_; (try simp only [Act.put, List.setIfInBounds_toArray, List.set_cons_zero, List.set_cons_succ])
            refine next_on 12 (by simp only [List.getElem?_toArray, List.getElem?_cons_succ, List.getElem?_cons_zero]; exact rfl) (by kernel_rfl) (by kernel_rfl) (by kernel_rfl) (by rfl) (fun _ _ _ h => h) hHeld (by intro w hSw; (try dsimp only at hSw); go_simp; (try with_reducible rfl)) ?_; (try simp only [Act.put, List.setIfInBounds_toArray, List.set_cons_zero, List.set_cons_succ])
            refine next_on 13 (by simp only [List.getElem?_toArray, List.getElem?_cons_succ, List.getElem?_cons_zero]; exact rfl) (by kernel_rfl) (by kernel_rfl) (by kernel_rfl) (by rfl) (fun _ _ _ h => h) hHeld (by intro w hSw; (try dsimp only at hSw); go_simp; (try with_reducible rfl)) ?_; (try simp only [Act.put, List.setIfInBounds_toArray, List.set_cons_zero, List.set_cons_succ])
            refine next_on 14 (by simp only [List.getElem?_toArray, List.getElem?_cons_succ, List.getElem?_cons_zero]; exact rfl) (by kernel_rfl) (by kernel_rfl) (by kernel_rfl) (by rfl) (fun _ _ _ h => h) hHeld (by intro w hSw; (try dsimp only at hSw); go_simp; (try with_reducible rfl)) ?_; (try simp only [Act.put, List.setIfInBounds_toArray, List.set_cons_zero, List.set_cons_succ])
            refine next_on 15 (by simp only [List.getElem?_toArray, List.getElem?_cons_succ, List.getElem?_cons_zero]; exact rfl) (by kernel_rfl) (by kernel_rfl) (by kernel_rfl) (by rfl) (fun _ _ _ h => h) hHeld (by intro w hSw; (try dsimp only at hSw); go_simp; (try with_reducible rfl)) ?_; (try simp only [Act.put, List.setIfInBounds_toArray, List.set_cons_zero, List.set_cons_succ])
            refine next_on 16 (by simp only [List.getElem?_toArray, List.getElem?_cons_succ, List.getElem?_cons_zero]; exact rfl) (by kernel_rfl) (by kernel_rfl) (by kernel_rfl) (by rfl) (fun _ _ _ h => h) hHeld (by intro w hSw; (try dsimp only at hSw); go_simp; (try with_reducible rfl)) ?_; (try simp only [Act.put, List.setIfInBounds_toArray, List.set_cons_zero, List.set_cons_succ])
            refine next_on 17 (by simp only [List.getElem?_toArray, List.getElem?_cons_succ, List.getElem?_cons_zero]; exact rfl) (by kernel_rfl) (by kernel_rfl) (by kernel_rfl) (by rfl) (fun _ _ _ h => h) hHeld (by intro w hSw; (try dsimp only at hSw); go_simp; (try with_reducible rfl)) ?_; (try simp only [Act.put, List.setIfInBounds_toArray, List.set_cons_zero, List.set_cons_succ])
            refine next_on 18 (by simp only [List.getElem?_toArray, List.getElem?_cons_succ, List.getElem?_cons_zero]; exact rfl) (by kernel_rfl) (by kernel_rfl) (by kernel_rfl) (by rfl) (fun _ _ _ h => h) hHeld (by intro w hSw; (try dsimp only at hSw); go_simp; (try with_reducible rfl)) ?_; (try simp only [Act.put, List.setIfInBounds_toArray, List.set_cons_zero, List.set_cons_succ])
            refine reg_end (by kernel_rfl) ?_ _
            go_wp2_with fail
            go_ret
            exact ⟨rfl, HA.out.only (((Only.refl [] W).drew.drew).drew) (by simp), ((HOA.out.mono (by simp)).drew.drew).drew⟩
        · have e3 : (p.1.what == 1) = false := by simp [hw]
          have hst : canswer C m = (C, false) := by
            unfold canswer; rw [hfst]; dsimp only [Option.map_some]; rw [if_neg (fun h => hw h.2.2.1)]
          rw [hst]
          clear hfst hgl hf hst hrun hzk hp hpid hw
          go_enter Try.func17, Try.ntmps17
          go_wp2_with fail
          refine reg_begin 16 (S := fun w' => (w'.cell? ⟨N, 0, none⟩ = some (.int .i64 m.kind) ∧ w'.cell? ⟨N, 2, none⟩ = some (.int .i64 m.to)) ∧ w'.cell? ⟨c, 0, none⟩ = some (.int .i64 C.me)) (by rfl) (by kernel_rfl) ⟨⟨m0, m2⟩, c0⟩ (fun hHeld => ?_)
          refine next_on 0 (by simp only [List.getElem?_toArray, List.getElem?_cons_succ, List.getElem?_cons_zero]; exact rfl) (by kernel_rfl) (by kernel_rfl) (by kernel_rfl) (by rfl) (fun _ _ _ h => h) hHeld (by intro w hSw; (try dsimp only at hSw); go_simp; (try with_reducible rfl)) ?_; (try simp only [Act.put, List.setIfInBounds_toArray, List.set_cons_zero, List.set_cons_succ])
          refine next_on 1 (by simp only [List.getElem?_toArray, List.getElem?_cons_succ, List.getElem?_cons_zero]; exact rfl) (by kernel_rfl) (by kernel_rfl) (by kernel_rfl) (by rfl) (fun _ _ _ h => h) hHeld (by intro w hSw; (try dsimp only at hSw); go_simp; (try with_reducible rfl)) ?_; (try simp only [Act.put, List.setIfInBounds_toArray, List.set_cons_zero, List.set_cons_succ])
          refine next_on 2 (by simp only [List.getElem?_toArray, List.getElem?_cons_succ, List.getElem?_cons_zero]; exact rfl) (by kernel_rfl) (by kernel_rfl) (by kernel_rfl) (by rfl) (fun _ _ _ h => h) hHeld (by intro w hSw; (try dsimp only at hSw); go_simp; (try with_reducible rfl)) ?_; (try simp only [Act.put, List.setIfInBounds_toArray, List.set_cons_zero, List.set_cons_succ])
          refine next_on 3 (by simp only [List.getElem?_toArray, List.getElem?_cons_succ, List.getElem?_cons_zero]; exact rfl) (by kernel_rfl) (by kernel_rfl) (by kernel_rfl) (by rfl) (fun _ _ _ h => h) hHeld (by intro w hSw; (try dsimp only at hSw); go_simp; (try with_reducible rfl)) ?_; (try simp only [Act.put, List.setIfInBounds_toArray, List.set_cons_zero, List.set_cons_succ])
          refine next_on 4 (by simp only [List.getElem?_toArray, List.getElem?_cons_succ, List.getElem?_cons_zero]; exact rfl) (by kernel_rfl) (by kernel_rfl) (by kernel_rfl) (by rfl) (fun _ _ _ h => h) hHeld (by intro w hSw; (try dsimp only at hSw); go_simp; (try with_reducible rfl)) ?_; (try simp only [Act.put, List.setIfInBounds_toArray, List.set_cons_zero, List.set_cons_succ])
          refine next_on 5 (by simp only [List.getElem?_toArray, List.getElem?_cons_succ, List.getElem?_cons_zero]; exact rfl) (by kernel_rfl) (by kernel_rfl) (by kernel_rfl) (by rfl) (fun _ _ _ h => h) hHeld (by intro w hSw; (try dsimp only at hSw); go_simp; (try with_reducible rfl)) ?_; (try simp only [Act.put, List.setIfInBounds_toArray, List.set_cons_zero, List.set_cons_succ])
          refine next_on 6 (by simp only [List.getElem?_toArray, List.getElem?_cons_succ, List.getElem?_cons_zero]; exact rfl) (by kernel_rfl) (by kernel_rfl) (by kernel_rfl) (by rfl) (fun _ _ _ h => h) hHeld (by intro w hSw; (try dsimp only at hSw); go_simp; (try with_reducible rfl)) ?_; (try simp only [Act.put, List.setIfInBounds_toArray, List.set_cons_zero, List.set_cons_succ])
          refine next_on 7 (by simp only [List.getElem?_toArray, List.getElem?_cons_succ, List.getElem?_cons_zero]; exact rfl) (by kernel_rfl) (by kernel_rfl) (by kernel_rfl) (by rfl) (fun _ _ _ h => h) hHeld (by intro w hSw; (try dsimp only at hSw); go_simp; (try with_reducible rfl)) ?_; (try simp only [Act.put, List.setIfInBounds_toArray, List.set_cons_zero, List.set_cons_succ])
          refine next_on 8 (by simp only [List.getElem?_toArray, List.getElem?_cons_succ, List.getElem?_cons_zero]; exact rfl) (by kernel_rfl) (by kernel_rfl) (by kernel_rfl) (by rfl) (fun _ _ _ h => h) hHeld (by intro w hSw; (try dsimp only at hSw); go_simp; (try with_reducible rfl)) ?_; (try simp only [Act.put, List.setIfInBounds_toArray, List.set_cons_zero, List.set_cons_succ])
          refine next_on 9 (by simp only [List.getElem?_toArray, List.getElem?_cons_succ, List.getElem?_cons_zero]; exact rfl) (by kernel_rfl) (by kernel_rfl) (by kernel_rfl) (by rfl) (fun _ _ _ h => h) hHeld (by intro w hSw; (try dsimp only at hSw); go_simp; (try with_reducible rfl)) ?_; (try simp only [Act.put, List.setIfInBounds_toArray, List.set_cons_zero, List.set_cons_succ])
          refine next_on 10 (by simp only [List.getElem?_toArray, List.getElem?_cons_succ, List.getElem?_cons_zero]; exact rfl) (by kernel_rfl) (by kernel_rfl) (by kernel_rfl) (by rfl) (fun _ _ _ h => h) hHeld (by intro w hSw; (try dsimp only at hSw); go_simp; (try with_reducible rfl)) ?_; (try simp only [Act.put, List.setIfInBounds_toArray, List.set_cons_zero, List.set_cons_succ])
          refine next_on 11 (by simp only [List.getElem?_toArray, List.getElem?_cons_succ, List.getElem?_cons_zero]; exact rfl) (by kernel_rfl) (by kernel_rfl) (by kernel_rfl) (by rfl) (fun _ _ _ h => h) hHeld (by intro w hSw; (try dsimp only at hSw); go_simp; (try with_reducible rfl)) ?_; (try simp only [Act.put, List.setIfInBounds_toArray, List.set_cons_zero, List.set_cons_succ])
          refine next_on 12 (by simp only [List.getElem?_toArray, List.getElem?_cons_succ, List.getElem?_cons_zero]; exact rfl) (by kernel_rfl) (by kernel_rfl) (by kernel_rfl) (by rfl) (fun _ _ _ h => h) hHeld (by intro w hSw; (try dsimp only at hSw); go_simp; (try with_reducible rfl)) ?_; (try simp only [Act.put, List.setIfInBounds_toArray, List.set_cons_zero, List.set_cons_succ])
          refine next_on 13 (by simp only [List.getElem?_toArray, List.getElem?_cons_succ, List.getElem?_cons_zero]; exact rfl) (by kernel_rfl) (by kernel_rfl) (by kernel_rfl) (by rfl) (fun _ _ _ h => h) hHeld (by intro w hSw; (try dsimp only at hSw); go_simp; (try with_reducible rfl)) ?_; (try simp only [Act.put, List.setIfInBounds_toArray, List.set_cons_zero, List.set_cons_succ])
          refine next_on 14 (by simp only [List.getElem?_toArray, List.getElem?_cons_succ, List.getElem?_cons_zero]; exact rfl) (by kernel_rfl) (by kernel_rfl) (by kernel_rfl) (by rfl) (fun _ _ _ h => h) hHeld (by intro w hSw; (try dsimp only at hSw); go_simp; (try with_reducible rfl)) ?_; (try simp only [Act.put, List.setIfInBounds_toArray, List.set_cons_zero, List.set_cons_succ])
          refine next_on 15 (by simp only [List.getElem?_toArray, List.getElem?_cons_succ, List.getElem?_cons_zero]; exact rfl) (by kernel_rfl) (by kernel_rfl) (by kernel_rfl) (by rfl) (fun _ _ _ h => h) hHeld (by intro w hSw; (try dsimp only at hSw); go_simp; (try with_reducible rfl)) ?_; (try simp only [Act.put, List.setIfInBounds_toArray, List.set_cons_zero, List.set_cons_succ])
          refine reg_end (by kernel_rfl) ?_ _
          go_wp2_with fail
          refine reg_begin 12 (S := fun w' => (w'.cell? ⟨c, 2, none⟩ = some (.map (some bm)) ∧ w'.cell? ⟨N, 3, none⟩ = some (.int .i64 m.id)) ∧ (Instr.lookup 61 (.map (some bm)) (.int .i64 m.id) true).run Try.prog w' = .ok (.tuple #[.pointer (some ⟨p.2, 0, none⟩), .bool true]) w') (by rfl) (by kernel_rfl) ⟨⟨c2, m3⟩, HR.out _ HB.out⟩ (fun hHeld => ?_)
          refine next_on 0 (by simp only [List.getElem?_toArray, List.getElem?_cons_succ, List.getElem?_cons_zero]; exact rfl) (by kernel_rfl) (by kernel_rfl) (by kernel_rfl) (by rfl) (fun _ _ _ h => h) hHeld (by intro w hSw; (try dsimp only at hSw); go_simp; (try with_reducible rfl)) ?_; (try simp only [Act.put, List.setIfInBounds_toArray, List.set_cons_zero, List.set_cons_succ])
          refine next_on 1 (by simp only [List.getElem?_toArray, List.getElem?_cons_succ, List.getElem?_cons_zero]; exact rfl) (by kernel_rfl) (by kernel_rfl) (by kernel_rfl) (by rfl) (fun _ _ _ h => h) hHeld (by intro w hSw; (try dsimp only at hSw); go_simp; (try with_reducible rfl)) ?_; (try simp only [Act.put, List.setIfInBounds_toArray, List.set_cons_zero, List.set_cons_succ])
          refine next_on 2 (by simp only [List.getElem?_toArray, List.getElem?_cons_succ, List.getElem?_cons_zero]; exact rfl) (by kernel_rfl) (by kernel_rfl) (by kernel_rfl) (by rfl) (fun _ _ _ h => h) hHeld (by intro w hSw; (try dsimp only at hSw); go_simp; (try with_reducible rfl)) ?_; (try simp only [Act.put, List.setIfInBounds_toArray, List.set_cons_zero, List.set_cons_succ])
          refine next_on 3 (by simp only [List.getElem?_toArray, List.getElem?_cons_succ, List.getElem?_cons_zero]; exact rfl) (by kernel_rfl) (by kernel_rfl) (by kernel_rfl) (by rfl) (fun _ _ _ h => h) hHeld (by intro w hSw; (try dsimp only at hSw); go_simp; (try with_reducible rfl)) ?_; (try simp only [Act.put, List.setIfInBounds_toArray, List.set_cons_zero, List.set_cons_succ])
          refine next_on 4 (by simp only [List.getElem?_toArray, List.getElem?_cons_succ, List.getElem?_cons_zero]; exact rfl) (by kernel_rfl) (by kernel_rfl) (by kernel_rfl) (by rfl) (fun _ _ _ h => h) hHeld (by intro w hSw; (try dsimp only at hSw); go_simp; (try with_reducible rfl)) ?_; (try simp only [Act.put, List.setIfInBounds_toArray, List.set_cons_zero, List.set_cons_succ])
          refine next_on 5 (by simp only [List.getElem?_toArray, List.getElem?_cons_succ, List.getElem?_cons_zero]; exact rfl) (by kernel_rfl) (by kernel_rfl) (by kernel_rfl) (by rfl) (fun _ _ _ h => h) hHeld (by intro w hSw; (try dsimp only at hSw); go_simp; (try with_reducible rfl)) ?_; (try simp only [Act.put, List.setIfInBounds_toArray, List.set_cons_zero, List.set_cons_succ])
          refine next_on 6 (by simp only [List.getElem?_toArray, List.getElem?_cons_succ, List.getElem?_cons_zero]; exact rfl) (by kernel_rfl) (by kernel_rfl) (by kernel_rfl) (by rfl) (fun _ _ _ h => h) hHeld (by intro w hSw; (try dsimp only at hSw); go_simp; (try with_reducible rfl)) ?_; (try simp only [Act.put, List.setIfInBounds_toArray, List.set_cons_zero, List.set_cons_succ])
          refine next_on 7 (by simp only [List.getElem?_toArray, List.getElem?_cons_succ, List.getElem?_cons_zero]; exact rfl) (by kernel_rfl) (by kernel_rfl) (by kernel_rfl) (by rfl) (fun _ _ _ h => h) hHeld (by intro w hSw; (try dsimp only at hSw); go_simp; (try with_reducible rfl)) ?_; (try simp only [Act.put, List.setIfInBounds_toArray, List.set_cons_zero, List.set_cons_succ])
          refine next_on 8 (by simp only [List.getElem?_toArray, List.getElem?_cons_succ, List.getElem?_cons_zero]; exact rfl) (by kernel_rfl) (by kernel_rfl) (by kernel_rfl) (by rfl) (fun _ _ _ h => h) hHeld (by intro w hSw; (try dsimp only at hSw); go_simp; (try with_reducible rfl)) ?_; (try simp only [Act.put, List.setIfInBounds_toArray, List.set_cons_zero, List.set_cons_succ])
          refine next_on 9 (by simp only [List.getElem?_toArray, List.getElem?_cons_succ, List.getElem?_cons_zero]; exact rfl) (by kernel_rfl) (by kernel_rfl) (by kernel_rfl) (by rfl) (fun _ _ _ h => h) hHeld (by intro w hSw; (try dsimp only at hSw); go_simp; (try with_reducible rfl)) ?_; (try simp only [Act.put, List.setIfInBounds_toArray, List.set_cons_zero, List.set_cons_succ])
          refine next_on 10 (by simp only [List.getElem?_toArray, List.getElem?_cons_succ, List.getElem?_cons_zero]; exact rfl) (by kernel_rfl) (by kernel_rfl) (by kernel_rfl) (by rfl) (fun _ _ _ h => h) hHeld (by intro w hSw; (try dsimp only at hSw); go_simp; (try with_reducible rfl)) ?_; (try simp only [Act.put, List.setIfInBounds_toArray, List.set_cons_zero, List.set_cons_succ])
          refine next_on 11 (by simp only [List.getElem?_toArray, List.getElem?_cons_succ, List.getElem?_cons_zero]; exact rfl) (by kernel_rfl) (by kernel_rfl) (by kernel_rfl) (by rfl) (fun _ _ _ h => h) hHeld (by intro w hSw; (try dsimp only at hSw); go_simp; (try with_reducible rfl)) ?_; (try simp only [Act.put, List.setIfInBounds_toArray, List.set_cons_zero, List.set_cons_succ])
          refine reg_end (by kernel_rfl) ?_ _
          go_wp2_with fail
          refine reg_begin 19 (S := fun w' => w'.cell? ⟨p.2, 4, none⟩ = some (.int .i64 p.1.what) ∧ w'.cell? ⟨p.2, 5, none⟩ = some (.string p.1.answer)) (by rfl) (by kernel_rfl) ⟨d4, d5⟩ (fun hHeld => ?_)
          refine next_on 0 (by simp only [List.getElem?_toArray, List.getElem?_cons_succ, List.getElem?_cons_zero]; exact rfl) (by kernel_rfl) (by kernel_rfl) (by kernel_rfl) (by rfl) (fun _ _ _ h => h) hHeld (by intro w hSw; (try dsimp only at hSw); go_simp; (try with_reducible rfl)) ?_; (try simp only [Act.put, List.setIfInBounds_toArray, List.set_cons_zero, List.set_cons_succ])
          refine next_on 1 (by simp only [List.getElem?_toArray, List.getElem?_cons_succ, List.getElem?_cons_zero]; exact rfl) (by kernel_rfl) (by kernel_rfl) (by kernel_rfl) (by rfl) (fun _ _ _ h => h) hHeld (by intro w hSw; (try dsimp only at hSw); go_simp; (try with_reducible rfl)) ?_; (try simp only [Act.put, List.setIfInBounds_toArray, List.set_cons_zero, List.set_cons_succ])
          refine next_on 2 (by simp only [List.getElem?_toArray, List.getElem?_cons_succ, List.getElem?_cons_zero]; exact rfl) (by kernel_rfl) (by kernel_rfl) (by kernel_rfl) (by rfl) (fun _ _ _ h => h) hHeld (by intro w hSw; (try dsimp only at hSw); go_simp; (try with_reducible rfl)) ?_; (try simp only [Act.put, List.setIfInBounds_toArray, List.set_cons_zero, List.set_cons_succ])
          refine next_on 3 (by simp only [List.getElem?_toArray, List.getElem?_cons_succ, List.getElem?_cons_zero]; exact rfl) (by kernel_rfl) (by kernel_rfl) (by kernel_rfl) (by rfl) (fun _ _ _ h => h) hHeld (by intro w hSw; (try dsimp only at hSw); go_simp; (try with_reducible rfl)) ?_; (try simp only [Act.put, List.setIfInBounds_toArray, List.set_cons_zero, List.set_cons_succ])
          refine next_on 4 (by simp only [List.getElem?_toArray, List.getElem?_cons_succ, List.getElem?_cons_zero]; exact rfl) (by kernel_rfl) (by kernel_rfl) (by kernel_rfl) (by rfl) (fun _ _ _ h => h) hHeld (by intro w hSw; (try dsimp only at hSw); go_simp; (try with_reducible rfl)) ?_; (try simp only [Act.put, List.setIfInBounds_toArray, List.set_cons_zero, List.set_cons_succ])
          refine next_on 5 (by simp only [List.getElem?_toArray, List.getElem?_cons_succ, List.getElem?_cons_zero]; exact rfl) (by kernel_rfl) (by kernel_rfl) (by kernel_rfl) (by rfl) (fun _ _ _ h => h) hHeld (by intro w hSw; (try dsimp only at hSw); go_simp; (try with_reducible rfl)) ?_; (try simp only [Act.put, List.setIfInBounds_toArray, List.set_cons_zero, List.set_cons_succ])
          refine next_on 6 (by simp only [List.getElem?_toArray, List.getElem?_cons_succ, List.getElem?_cons_zero]; exact rfl) (by kernel_rfl) (by kernel_rfl) (by kernel_rfl) (by rfl) (fun _ _ _ h => h) hHeld (by intro w hSw; (try dsimp only at hSw); go_simp; (try with_reducible rfl)) ?_; (try simp only [Act.put, List.setIfInBounds_toArray, List.set_cons_zero, List.set_cons_succ])
          refine next_on 7 (by simp only [List.getElem?_toArray, List.getElem?_cons_succ, List.getElem?_cons_zero]; exact rfl) (by kernel_rfl) (by kernel_rfl) (by kernel_rfl) (by rfl) (fun _ _ _ h => h) hHeld (by intro w hSw; (try dsimp only at hSw); go_simp; (try with_reducible rfl)) ?_; (try simp only [Act.put, List.setIfInBounds_toArray, List.set_cons_zero, List.set_cons_succ])
          refine next_on 8 (by simp only [List.getElem?_toArray, List.getElem?_cons_succ, List.getElem?_cons_zero]; exact rfl) (by kernel_rfl) (by kernel_rfl) (by kernel_rfl) (by rfl) (fun _ _ _ h => h) hHeld (by intro w hSw; (try dsimp only at hSw); go_simp; (try with_reducible rfl)) ?_; (try simp only [Act.put, List.setIfInBounds_toArray, List.set_cons_zero, List.set_cons_succ])
          refine next_on 9 (by simp only [List.getElem?_toArray, List.getElem?_cons_succ, List.getElem?_cons_zero]; exact rfl) (by kernel_rfl) (by kernel_rfl) (by kernel_rfl) (by rfl) (fun _ _ _ h => h) hHeld (by intro w hSw; (try dsimp only at hSw); go_simp; (try with_reducible rfl)) ?_; (try simp only [Act.put, List.setIfInBounds_toArray, List.set_cons_zero, List.set_cons_succ])
          refine next_on 10 (by simp only [List.getElem?_toArray, List.getElem?_cons_succ, List.getElem?_cons_zero]; exact rfl) (by kernel_rfl) (by kernel_rfl) (by kernel_rfl) (by rfl) (fun _ _ _ h => h) hHeld (by intro w hSw; (try dsimp only at hSw); go_simp; (try with_reducible rfl)) ?_; (try simp only [Act.put, List.setIfInBounds_toArray, List.set_cons_zero, List.set_cons_succ])
          refine next_off 11 (by simp only [List.getElem?_toArray, List.getElem?_cons_succ, List.getElem?_cons_zero]; exact rfl) (by kernel_rfl) (by kernel_rfl) (by kernel_rfl) (by rfl) (fun _ _ _ h => h) hHeld ?_; (try simp only [Act.put, List.setIfInBounds_toArray, List.set_cons_zero, List.set_cons_succ])
          refine next_off 12 (by simp only [List.getElem?_toArray, List.getElem?_cons_succ, List.getElem?_cons_zero]; exact rfl) (by kernel_rfl) (by kernel_rfl) (by kernel_rfl) (by rfl) (fun _ _ _ h => h) hHeld ?_; (try simp only [Act.put, List.setIfInBounds_toArray, List.set_cons_zero, List.set_cons_succ])
          refine next_off 13 (by simp only [List.getElem?_toArray, List.getElem?_cons_succ, List.getElem?_cons_zero]; exact rfl) (by kernel_rfl) (by kernel_rfl) (by kernel_rfl) (by rfl) (fun _ _ _ h => h) hHeld ?_; (try simp only [Act.put, List.setIfInBounds_toArray, List.set_cons_zero, List.set_cons_succ])
          refine next_off 14 (by simp only [List.getElem?_toArray, List.getElem?_cons_succ, List.getElem?_cons_zero]; exact rfl) (by kernel_rfl) (by kernel_rfl) (by kernel_rfl) (by rfl) (fun _ _ _ h => h) hHeld ?_; (try simp only [Act.put, List.setIfInBounds_toArray, List.set_cons_zero, List.set_cons_succ])
          refine next_off 15 (by simp only [List.getElem?_toArray, List.getElem?_cons_succ, List.getElem?_cons_zero]; exact rfl) (by kernel_rfl) (by kernel_rfl) (by kernel_rfl) (by rfl) (fun _ _ _ h => h) hHeld ?_; (try simp only [Act.put, List.setIfInBounds_toArray, List.set_cons_zero, List.set_cons_succ])
          refine next_off 16 (by simp only [List.getElem?_toArray, List.getElem?_cons_succ, List.getElem?_cons_zero]; exact rfl) (by kernel_rfl) (by kernel_rfl) (by kernel_rfl) (by rfl) (fun _ _ _ h => h) hHeld ?_; (try simp only [Act.put, List.setIfInBounds_toArray, List.set_cons_zero, List.set_cons_succ])
          refine next_off 17 (by simp only [List.getElem?_toArray, List.getElem?_cons_succ, List.getElem?_cons_zero]; exact rfl) (by kernel_rfl) (by kernel_rfl) (by kernel_rfl) (by rfl) (fun _ _ _ h => h) hHeld ?_; (try simp only [Act.put, List.setIfInBounds_toArray, List.set_cons_zero, List.set_cons_succ])
          refine next_on 18 (by simp only [List.getElem?_toArray, List.getElem?_cons_succ, List.getElem?_cons_zero]; exact rfl) (by kernel_rfl) (by kernel_rfl) (by kernel_rfl) (by rfl) (fun _ _ _ h => h) hHeld (by intro w hSw; (try dsimp only at hSw); go_simp; (try with_reducible rfl)) ?_; (try simp only [Act.put, List.setIfInBounds_toArray, List.set_cons_zero, List.set_cons_succ])
          refine reg_end (by kernel_rfl) ?_ _
          go_wp2_with fail
          go_ret
          exact ⟨rfl, HA.out.only (((Only.refl [] W).drew.drew).drew) (by simp), ((HOA.out.mono (by simp)).drew.drew).drew⟩
    · have e2 : (m.to != C.me) = true := by simp [hto]
      have hst : canswer C m = (C, false) := by
        unfold canswer
        cases kfind m.id C.L with
        | none => rfl
        | some k => dsimp only; rw [if_neg (fun h => hto h.2.1)]
      rw [hst]
      clear hto hst hfst hgl
      go_enter Try.func17, Try.ntmps17
      go_wp2_with fail
      refine reg_begin 16 (S := fun w' => (w'.cell? ⟨N, 0, none⟩ = some (.int .i64 m.kind) ∧ w'.cell? ⟨N, 2, none⟩ = some (.int .i64 m.to)) ∧ w'.cell? ⟨c, 0, none⟩ = some (.int .i64 C.me)) (by rfl) (by kernel_rfl) ⟨⟨m0, m2⟩, c0⟩ (fun hHeld => ?_)
      refine next_on 0 (by simp only [List.getElem?_toArray, List.getElem?_cons_succ, List.getElem?_cons_zero]; exact rfl) (by kernel_rfl) (by kernel_rfl) (by kernel_rfl) (by rfl) (fun _ _ _ h => h) hHeld (by intro w hSw; (try dsimp only at hSw); go_simp; (try with_reducible rfl)) ?_; (try simp only [Act.put, List.setIfInBounds_toArray, List.set_cons_zero, List.set_cons_succ])
      refine next_on 1 (by simp only [List.getElem?_toArray, List.getElem?_cons_succ, List.getElem?_cons_zero]; exact rfl) (by kernel_rfl) (by kernel_rfl) (by kernel_rfl) (by rfl) (fun _ _ _ h => h) hHeld (by intro w hSw; (try dsimp only at hSw); go_simp; (try with_reducible rfl)) ?_; (try simp only [Act.put, List.setIfInBounds_toArray, List.set_cons_zero, List.set_cons_succ])
      refine next_on 2 (by simp only [List.getElem?_toArray, List.getElem?_cons_succ, List.getElem?_cons_zero]; exact rfl) (by kernel_rfl) (by kernel_rfl) (by kernel_rfl) (by rfl) (fun _ _ _ h => h) hHeld (by intro w hSw; (try dsimp only at hSw); go_simp; (try with_reducible rfl)) ?_; (try simp only [Act.put, List.setIfInBounds_toArray, List.set_cons_zero, List.set_cons_succ])
      refine next_on 3 (by simp only [List.getElem?_toArray, List.getElem?_cons_succ, List.getElem?_cons_zero]; exact rfl) (by kernel_rfl) (by kernel_rfl) (by kernel_rfl) (by rfl) (fun _ _ _ h => h) hHeld (by intro w hSw; (try dsimp only at hSw); go_simp; (try with_reducible rfl)) ?_; (try simp only [Act.put, List.setIfInBounds_toArray, List.set_cons_zero, List.set_cons_succ])
      refine next_on 4 (by simp only [List.getElem?_toArray, List.getElem?_cons_succ, List.getElem?_cons_zero]; exact rfl) (by kernel_rfl) (by kernel_rfl) (by kernel_rfl) (by rfl) (fun _ _ _ h => h) hHeld (by intro w hSw; (try dsimp only at hSw); go_simp; (try with_reducible rfl)) ?_; (try simp only [Act.put, List.setIfInBounds_toArray, List.set_cons_zero, List.set_cons_succ])
      refine next_on 5 (by simp only [List.getElem?_toArray, List.getElem?_cons_succ, List.getElem?_cons_zero]; exact rfl) (by kernel_rfl) (by kernel_rfl) (by kernel_rfl) (by rfl) (fun _ _ _ h => h) hHeld (by intro w hSw; (try dsimp only at hSw); go_simp; (try with_reducible rfl)) ?_; (try simp only [Act.put, List.setIfInBounds_toArray, List.set_cons_zero, List.set_cons_succ])
      refine next_on 6 (by simp only [List.getElem?_toArray, List.getElem?_cons_succ, List.getElem?_cons_zero]; exact rfl) (by kernel_rfl) (by kernel_rfl) (by kernel_rfl) (by rfl) (fun _ _ _ h => h) hHeld (by intro w hSw; (try dsimp only at hSw); go_simp; (try with_reducible rfl)) ?_; (try simp only [Act.put, List.setIfInBounds_toArray, List.set_cons_zero, List.set_cons_succ])
      refine next_on 7 (by simp only [List.getElem?_toArray, List.getElem?_cons_succ, List.getElem?_cons_zero]; exact rfl) (by kernel_rfl) (by kernel_rfl) (by kernel_rfl) (by rfl) (fun _ _ _ h => h) hHeld (by intro w hSw; (try dsimp only at hSw); go_simp; (try with_reducible rfl)) ?_; (try simp only [Act.put, List.setIfInBounds_toArray, List.set_cons_zero, List.set_cons_succ])
      refine next_on 8 (by simp only [List.getElem?_toArray, List.getElem?_cons_succ, List.getElem?_cons_zero]; exact rfl) (by kernel_rfl) (by kernel_rfl) (by kernel_rfl) (by rfl) (fun _ _ _ h => h) hHeld (by intro w hSw; (try dsimp only at hSw); go_simp; (try with_reducible rfl)) ?_; (try simp only [Act.put, List.setIfInBounds_toArray, List.set_cons_zero, List.set_cons_succ])
      refine next_on 9 (by simp only [List.getElem?_toArray, List.getElem?_cons_succ, List.getElem?_cons_zero]; exact rfl) (by kernel_rfl) (by kernel_rfl) (by kernel_rfl) (by rfl) (fun _ _ _ h => h) hHeld (by intro w hSw; (try dsimp only at hSw); go_simp; (try with_reducible rfl)) ?_; (try simp only [Act.put, List.setIfInBounds_toArray, List.set_cons_zero, List.set_cons_succ])
      refine next_on 10 (by simp only [List.getElem?_toArray, List.getElem?_cons_succ, List.getElem?_cons_zero]; exact rfl) (by kernel_rfl) (by kernel_rfl) (by kernel_rfl) (by rfl) (fun _ _ _ h => h) hHeld (by intro w hSw; (try dsimp only at hSw); go_simp; (try with_reducible rfl)) ?_; (try simp only [Act.put, List.setIfInBounds_toArray, List.set_cons_zero, List.set_cons_succ])
      refine next_on 11 (by simp only [List.getElem?_toArray, List.getElem?_cons_succ, List.getElem?_cons_zero]; exact rfl) (by kernel_rfl) (by kernel_rfl) (by kernel_rfl) (by rfl) (fun _ _ _ h => h) hHeld (by intro w hSw; (try dsimp only at hSw); go_simp; (try with_reducible rfl)) ?_; (try simp only [Act.put, List.setIfInBounds_toArray, List.set_cons_zero, List.set_cons_succ])
      refine next_on 12 (by simp only [List.getElem?_toArray, List.getElem?_cons_succ, List.getElem?_cons_zero]; exact rfl) (by kernel_rfl) (by kernel_rfl) (by kernel_rfl) (by rfl) (fun _ _ _ h => h) hHeld (by intro w hSw; (try dsimp only at hSw); go_simp; (try with_reducible rfl)) ?_; (try simp only [Act.put, List.setIfInBounds_toArray, List.set_cons_zero, List.set_cons_succ])
      refine next_on 13 (by simp only [List.getElem?_toArray, List.getElem?_cons_succ, List.getElem?_cons_zero]; exact rfl) (by kernel_rfl) (by kernel_rfl) (by kernel_rfl) (by rfl) (fun _ _ _ h => h) hHeld (by intro w hSw; (try dsimp only at hSw); go_simp; (try with_reducible rfl)) ?_; (try simp only [Act.put, List.setIfInBounds_toArray, List.set_cons_zero, List.set_cons_succ])
      refine next_on 14 (by simp only [List.getElem?_toArray, List.getElem?_cons_succ, List.getElem?_cons_zero]; exact rfl) (by kernel_rfl) (by kernel_rfl) (by kernel_rfl) (by rfl) (fun _ _ _ h => h) hHeld (by intro w hSw; (try dsimp only at hSw); go_simp; (try with_reducible rfl)) ?_; (try simp only [Act.put, List.setIfInBounds_toArray, List.set_cons_zero, List.set_cons_succ])
      refine next_on 15 (by simp only [List.getElem?_toArray, List.getElem?_cons_succ, List.getElem?_cons_zero]; exact rfl) (by kernel_rfl) (by kernel_rfl) (by kernel_rfl) (by rfl) (fun _ _ _ h => h) hHeld (by intro w hSw; (try dsimp only at hSw); go_simp; (try with_reducible rfl)) ?_; (try simp only [Act.put, List.setIfInBounds_toArray, List.set_cons_zero, List.set_cons_succ])
      refine reg_end (by kernel_rfl) ?_ _
      go_wp2_with fail
      go_ret
      exact ⟨rfl, HA.out.only (Only.refl [] W).drew (by simp), (HOA.out.mono (by simp)).drew⟩
  · have e1 : (m.kind != 2) = true := by simp [hkind]
    have hst : canswer C m = (C, false) := by
      unfold canswer
      cases kfind m.id C.L with
      | none => rfl
      | some k => dsimp only; rw [if_neg (fun h => hkind h.1)]
    rw [hst]
    clear hkind hst hfst hgl
    go_enter Try.func17, Try.ntmps17
    go_wp2_with fail
    refine reg_begin 16 (S := fun w' => w'.cell? ⟨N, 0, none⟩ = some (.int .i64 m.kind)) (by rfl) (by kernel_rfl) m0 (fun hHeld => ?_)
    refine next_on 0 (by simp only [List.getElem?_toArray, List.getElem?_cons_succ, List.getElem?_cons_zero]; exact rfl) (by kernel_rfl) (by kernel_rfl) (by kernel_rfl) (by rfl) (fun _ _ _ h => h) hHeld (by intro w hSw; (try dsimp only at hSw); go_simp; (try with_reducible rfl)) ?_; (try simp only [Act.put, List.setIfInBounds_toArray, List.set_cons_zero, List.set_cons_succ])
    refine next_on 1 (by simp only [List.getElem?_toArray, List.getElem?_cons_succ, List.getElem?_cons_zero]; exact rfl) (by kernel_rfl) (by kernel_rfl) (by kernel_rfl) (by rfl) (fun _ _ _ h => h) hHeld (by intro w hSw; (try dsimp only at hSw); go_simp; (try with_reducible rfl)) ?_; (try simp only [Act.put, List.setIfInBounds_toArray, List.set_cons_zero, List.set_cons_succ])
    refine next_on 2 (by simp only [List.getElem?_toArray, List.getElem?_cons_succ, List.getElem?_cons_zero]; exact rfl) (by kernel_rfl) (by kernel_rfl) (by kernel_rfl) (by rfl) (fun _ _ _ h => h) hHeld (by intro w hSw; (try dsimp only at hSw); go_simp; (try with_reducible rfl)) ?_; (try simp only [Act.put, List.setIfInBounds_toArray, List.set_cons_zero, List.set_cons_succ])
    refine next_on 3 (by simp only [List.getElem?_toArray, List.getElem?_cons_succ, List.getElem?_cons_zero]; exact rfl) (by kernel_rfl) (by kernel_rfl) (by kernel_rfl) (by rfl) (fun _ _ _ h => h) hHeld (by intro w hSw; (try dsimp only at hSw); go_simp; (try with_reducible rfl)) ?_; (try simp only [Act.put, List.setIfInBounds_toArray, List.set_cons_zero, List.set_cons_succ])
    refine next_on 4 (by simp only [List.getElem?_toArray, List.getElem?_cons_succ, List.getElem?_cons_zero]; exact rfl) (by kernel_rfl) (by kernel_rfl) (by kernel_rfl) (by rfl) (fun _ _ _ h => h) hHeld (by intro w hSw; (try dsimp only at hSw); go_simp; (try with_reducible rfl)) ?_; (try simp only [Act.put, List.setIfInBounds_toArray, List.set_cons_zero, List.set_cons_succ])
    refine next_on 5 (by simp only [List.getElem?_toArray, List.getElem?_cons_succ, List.getElem?_cons_zero]; exact rfl) (by kernel_rfl) (by kernel_rfl) (by kernel_rfl) (by rfl) (fun _ _ _ h => h) hHeld (by intro w hSw; (try dsimp only at hSw); go_simp; (try with_reducible rfl)) ?_; (try simp only [Act.put, List.setIfInBounds_toArray, List.set_cons_zero, List.set_cons_succ])
    refine next_on 6 (by simp only [List.getElem?_toArray, List.getElem?_cons_succ, List.getElem?_cons_zero]; exact rfl) (by kernel_rfl) (by kernel_rfl) (by kernel_rfl) (by rfl) (fun _ _ _ h => h) hHeld (by intro w hSw; (try dsimp only at hSw); go_simp; (try with_reducible rfl)) ?_; (try simp only [Act.put, List.setIfInBounds_toArray, List.set_cons_zero, List.set_cons_succ])
    refine next_on 7 (by simp only [List.getElem?_toArray, List.getElem?_cons_succ, List.getElem?_cons_zero]; exact rfl) (by kernel_rfl) (by kernel_rfl) (by kernel_rfl) (by rfl) (fun _ _ _ h => h) hHeld (by intro w hSw; (try dsimp only at hSw); go_simp; (try with_reducible rfl)) ?_; (try simp only [Act.put, List.setIfInBounds_toArray, List.set_cons_zero, List.set_cons_succ])
    refine next_off 8 (by simp only [List.getElem?_toArray, List.getElem?_cons_succ, List.getElem?_cons_zero]; exact rfl) (by kernel_rfl) (by kernel_rfl) (by kernel_rfl) (by rfl) (fun _ _ _ h => h) hHeld ?_; (try simp only [Act.put, List.setIfInBounds_toArray, List.set_cons_zero, List.set_cons_succ])
    refine next_off 9 (by simp only [List.getElem?_toArray, List.getElem?_cons_succ, List.getElem?_cons_zero]; exact rfl) (by kernel_rfl) (by kernel_rfl) (by kernel_rfl) (by rfl) (fun _ _ _ h => h) hHeld ?_; (try simp only [Act.put, List.setIfInBounds_toArray, List.set_cons_zero, List.set_cons_succ])
    refine next_off 10 (by simp only [List.getElem?_toArray, List.getElem?_cons_succ, List.getElem?_cons_zero]; exact rfl) (by kernel_rfl) (by kernel_rfl) (by kernel_rfl) (by rfl) (fun _ _ _ h => h) hHeld ?_; (try simp only [Act.put, List.setIfInBounds_toArray, List.set_cons_zero, List.set_cons_succ])
    refine next_off 11 (by simp only [List.getElem?_toArray, List.getElem?_cons_succ, List.getElem?_cons_zero]; exact rfl) (by kernel_rfl) (by kernel_rfl) (by kernel_rfl) (by rfl) (fun _ _ _ h => h) hHeld ?_; (try simp only [Act.put, List.setIfInBounds_toArray, List.set_cons_zero, List.set_cons_succ])
    refine next_off 12 (by simp only [List.getElem?_toArray, List.getElem?_cons_succ, List.getElem?_cons_zero]; exact rfl) (by kernel_rfl) (by kernel_rfl) (by kernel_rfl) (by rfl) (fun _ _ _ h => h) hHeld ?_; (try simp only [Act.put, List.setIfInBounds_toArray, List.set_cons_zero, List.set_cons_succ])
    refine next_off 13 (by simp only [List.getElem?_toArray, List.getElem?_cons_succ, List.getElem?_cons_zero]; exact rfl) (by kernel_rfl) (by kernel_rfl) (by kernel_rfl) (by rfl) (fun _ _ _ h => h) hHeld ?_; (try simp only [Act.put, List.setIfInBounds_toArray, List.set_cons_zero, List.set_cons_succ])
    refine next_off 14 (by simp only [List.getElem?_toArray, List.getElem?_cons_succ, List.getElem?_cons_zero]; exact rfl) (by kernel_rfl) (by kernel_rfl) (by kernel_rfl) (by rfl) (fun _ _ _ h => h) hHeld ?_; (try simp only [Act.put, List.setIfInBounds_toArray, List.set_cons_zero, List.set_cons_succ])
    refine next_on 15 (by simp only [List.getElem?_toArray, List.getElem?_cons_succ, List.getElem?_cons_zero]; exact rfl) (by kernel_rfl) (by kernel_rfl) (by kernel_rfl) (by rfl) (fun _ _ _ h => h) hHeld (by intro w hSw; (try dsimp only at hSw); go_simp; (try with_reducible rfl)) ?_; (try simp only [Act.put, List.setIfInBounds_toArray, List.set_cons_zero, List.set_cons_succ])
    refine reg_end (by kernel_rfl) ?_ _
    go_wp2_with fail
    go_ret
    exact ⟨rfl, HA.out.only (Only.refl [] W).drew (by simp), (HOA.out.mono (by simp)).drew⟩
def pdel (id : Int) (P : List (Kc × Nat)) : List (Kc × Nat) := P.filter fun q => q.1.id != id
theorem pdel_fst (id : Int) (P : List (Kc × Nat)) : (pdel id P).map Prod.fst = kdel id (P.map Prod.fst) := by
  unfold pdel kdel
  rw [List.filter_map]; rfl
theorem pdel_ent (id : Int) : ∀ {P : List (Kc × Nat)}, ((P.map Prod.fst).map Kc.id).Nodup → mdel id (pent P) = pent (pdel id P)
  | [], _ => rfl
  | p :: r, h => by
    rw [List.map_cons, List.map_cons, List.nodup_cons] at h
    have ih := pdel_ent id h.2
    unfold pent pdel at *
    rw [List.map_cons]
    unfold mdel
    by_cases e : p.1.id = id
    · rw [if_pos e, List.filter_cons_of_neg (by simpa using e), List.filter_eq_self.2]
      intro q hq
      simp only [bne_iff_ne, ne_eq]
      exact fun e2 => h.1 (List.mem_map.2 ⟨q.1, List.mem_map.2 ⟨q, hq, rfl⟩, e2.trans e.symm⟩)
    · rw [if_neg e, List.filter_cons_of_pos (by simpa using e), List.map_cons, ih]
theorem calForget_nil (id : Int) (w : World) : Calls Try.prog 19 #[.pointer none, .int .i64 id] w fun e w' => e = .returned (.bool false) ∧ w = w' := by
  go_enter Try.func19, Try.ntmps19
  go_wp2_with fail
  refine (calState_nil _ _).mono ?_
  rintro e w1 ⟨rfl, rfl⟩
  go_wp2_with fail
  go_ret
  exact ⟨rfl, rfl⟩
set_option maxHeartbeats 1000000 in
set_option maxRecDepth 100000 in
theorem calForget_at {w : World} {c : Nat} {F : List Nat} {C : Cs} (h : CalAt w c F C) (id : Int) :
    Calls Try.prog 19 #[.pointer (some ⟨c, 0, none⟩), .int .i64 id] w fun e w' => e = .returned (.bool (cforget C id).2) ∧ ∃ F', CalAt w' c F' (cforget C id).1 ∧ Only F w w' ∧ ∀ b ∈ F', b ∈ F := by
  have hstA := calState_at h id
  have HSA := Lib.hid hstA
  have HA := Lib.hid h
  clear hstA
  have hcase : (cstate C id).1 = 0 ∨ (cstate C id).1 = 1 ∨ ((cstate C id).1 ≠ 0 ∧ (cstate C id).1 ≠ 1) := by omega
  have hsame : (cstate C id).1 = 0 ∨ (cstate C id).1 = 1 → cforget C id = (C, false) := by
    unfold cstate cforget
    cases kfind id C.L with
    | none => exact fun _ => rfl
    | some k => intro e; dsimp only at e ⊢; rw [if_pos e]
  have HSAME := Lib.hid hsame
  clear hsame
  rcases hcase with h0 | h0 | ⟨h0, h1⟩
  · rw [HSAME.out (.inl h0)]
    generalize cstate C id = r at *
    have e1 : (r.1 == 0) = true := by simp [h0]
    clear h0 h
    go_enter Try.func19, Try.ntmps19
    go_wp2_with fail
    refine HSA.out.mono ?_
    rintro e w1 ⟨rfl, hO⟩
    have HO := Lib.hid hO
    clear hO
    go_wp2_with fail
    go_ret
    exact ⟨rfl, F, HA.out.only HO.out (by simp), HO.out.mono (by simp), fun _ h => h⟩
  · rw [HSAME.out (.inr h0)]
    generalize cstate C id = r at *
    have e1 : (r.1 == 0) = false := by simp [h0]
    have e2 : (r.1 == 1) = true := by simp [h0]
    clear h0 h
    go_enter Try.func19, Try.ntmps19
    go_wp2_with fail
    refine HSA.out.mono ?_
    rintro e w1 ⟨rfl, hO⟩
    have HO := Lib.hid hO
    clear hO
    go_wp2_with fail
    go_ret
    exact ⟨rfl, F, HA.out.only HO.out (by simp), HO.out.mono (by simp), fun _ h => h⟩
  · obtain ⟨k, hk, hkw⟩ : ∃ k, kfind id C.L = some k ∧ k.what = (cstate C id).1 := by
      unfold cstate at h0 ⊢
      cases hh : kfind id C.L with
      | none => rw [hh] at h0; simp at h0
      | some k => exact ⟨k, rfl, rfl⟩
    have hfg : cforget C id = (⟨C.me, C.next, kdel id C.L⟩, true) := by
      unfold cforget; rw [hk]; dsimp only; rw [if_neg (by omega)]
    have hok := cforget_ok h.ok id
    rw [hfg] at hok ⊢
    have htm := forget_tms h.ok.sorted hk (by omega)
    have HKF := Lib.hid hk
    have HTM := Lib.hid htm
    have HOK := Lib.hid hok
    generalize cstate C id = r at *
    have e1 : (r.1 == 0) = false := by simp [h0]
    have e2 : (r.1 == 1) = false := by simp [h1]
    clear h0 h1 h hk hkw htm hok hfg
    go_enter Try.func19, Try.ntmps19
    go_wp2_with fail
    refine HSA.out.mono ?_
    rintro e w1 ⟨rfl, hO⟩
    obtain ⟨bm, t, Ft, P, es, ck, hc, hb, hM, hP, hk, hn, hT, rfl, h1, h2, h3⟩ := (HA.out.only hO (by simp)).obj
    obtain ⟨es', hdel, hM'⟩ := run_mdel (P := Try.prog) (b := bm) 0 Try.underlying61 Try.underlying3 hM (k := id)
    have hrun := hdel w1 hb
    have c2 := cell_at (o := 2) hc rfl
    have HO := Lib.hid hO
    have HC := Lib.hid hc
    have HB := Lib.hid hb
    have HM := Lib.hid hM'
    have HP := Lib.hid hP
    have HK := Lib.hid hk
    have HN := Lib.hid hn
    have HT := Lib.hid hT
    have H1 := Lib.hid h1
    have H2 := Lib.hid h2
    have H3 := Lib.hid h3
    clear hO hc hb hM hM' hP hk hn hT h1 h2 h3 hdel
    go_wp2_with fail
    go_ret
    have hcb : c ≠ bm := fun e => by have := HC.out; rw [e, HB.out] at this; simp at this
    have hOB : Only [bm] w1 (ChangeMaps.setBlock w1 bm (.map es' ck)) := (Only.refl [bm] w1).setB (.inl (by simp)) _
    have hnd : ((P.map Prod.fst).map Kc.id).Nodup := by rw [HP.out]; exact ids_nodup HA.out.ok.sorted
    have hM2 := HM.out
    rw [pdel_ent id hnd] at hM2
    refine ⟨rfl, c :: bm :: ((pdel id P).map Prod.snd ++ Ft), ⟨HOK.out, bm, t, Ft, pdel id P, es', ck, hOB.keep HC.out (by simpa using hcb), setB_same HB.out, hM2, by rw [pdel_fst, HP.out], ?_, HN.out.sublist (List.Sublist.map _ List.filter_sublist), ?_, rfl, H1.out, H2.out, ?_⟩, ?_, ?_⟩
    · intro q hq
      have hq' := (List.mem_filter.1 hq).1
      exact hOB.keep (HK.out q hq') (by simp; intro e; have := HK.out q hq'; rw [e, HB.out] at this; simp at this)
    · rw [← HTM.out]
      exact HT.out.only hOB (fun b hb => by simp; rintro rfl; exact H1.out hb)
    · intro q hq
      exact H3.out q (List.mem_filter.1 hq).1
    · exact (HO.out.mono (by simp)).trans (hOB.mono (by simp))
    · intro b hb
      simp only [List.mem_cons, List.mem_append, List.mem_map] at hb ⊢
      rcases hb with h | h | ⟨q, hq, rfl⟩ | h
      · exact .inl h
      · exact .inr (.inl h)
      · exact .inr (.inr (.inl ⟨q, (List.mem_filter.1 hq).1, rfl⟩))
      · exact .inr (.inr (.inr h))
end Go.Proofs.Ytllfehahjkbhiaa
