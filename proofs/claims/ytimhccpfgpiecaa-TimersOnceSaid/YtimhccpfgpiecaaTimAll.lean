/- Timers: All. -/
import Derived.Test.YtimhccpfgpiecaaSortTm
import Derived.Test.YtimhccpfgpiecaaPileOps
namespace Go.Proofs.Ytimhccpfgpiecaa
open Go.RowKit Go.Lib
set_option linter.unusedSimpArgs false
set_option linter.unusedVariables false
theorem info_tm2 : (Try.prog.info? 42).map (fun i => (i.zero, i.size, i.bytes)) = some (some (.agg #[.int .i64 0, .int .i64 0]), 2, 16) := by kernel_rfl
theorem nil_eq (w : World) : (binOp .eql 26 (.slice none 0 0) (.slice none 0 0)).run Try.prog w = .ok (.bool true) w := by kernel_rfl
theorem some_eq (a : Addr) (n c : Nat) (w : World) : (binOp .eql 26 (.slice (some a) n c) (.slice none 0 0)).run Try.prog w = .ok (.bool false) w := by kernel_rfl
set_option maxRecDepth 100000 in
set_option maxHeartbeats 1000000 in
theorem clone_at {w : World} {base : Nat} {v : Value} {L : List Tm} (hown : w.ownsRow base 42 2 v L.length (L.flatMap Tm.cells)) (hl : L.length ≤ 1048576) :
    Calls Try.prog 23 #[v] w fun e w' => ∃ v', e = .returned v' ∧ w'.ownsRow w.heap.size 42 2 v' L.length (L.flatMap Tm.cells) ∧ Only [] w w' := by
  obtain ⟨i, hi, hz, hs, hby⟩ := info_parts info_tm2
  have q1 := nil_eq
  have q2 := some_eq
  rcases hown.2 with ⟨rfl, h0⟩ | ⟨g, cap, cur, rfl, hb, hr, h1, h2, h3, h4⟩
  · have hL : L = [] := List.eq_nil_of_length_eq_zero h0
    have HL := Lib.hid hL
    clear hL hown h0
    go_enter Try.func23, Try.ntmps23
    go_wp2_with fail
    go_ret
    rw [HL.out]
    exact ⟨_, rfl, World.ownsRow_nil _ _ _ _, Only.refl _ _⟩
  · have hnews : ∀ (j : Nat) (u : Value), (L.flatMap Tm.cells)[j]? = some u → (w.alloc (.cells #[] 42)).cell? ((⟨g, 0, none⟩ : Addr).add j) = some u := by
      intro j u hu
      have hj := (List.getElem?_eq_some_iff.1 hu).1
      rw [tmflat_len] at hj
      rw [← h4, List.getElem?_take_of_lt hj, Array.getElem?_toList] at hu
      have hc := cell_at (o := j) ((heap_alloc_ne (o := .cells #[] 42) (lt_of_heap hr)).trans hr) hu
      cases j with
      | zero => simpa [Addr.add] using hc
      | succ j => simpa [Addr.add] using hc
    have hone : ∀ u ∈ L.flatMap Tm.cells, u.oneCell' = true := fun u hu => by
      obtain ⟨t, _, ht⟩ := List.mem_flatMap.1 hu
      exact tm_one t u ht
    have HN := Lib.hid hnews
    have HONE := Lib.hid hone
    have hlen := tmflat_len L
    have HLEN := Lib.hid hlen
    clear hnews hone hlen hr h3 h4 hown
    go_enter Try.func23, Try.ntmps23
    go_wp2_with (at_builtin; refine wpList_append_own _ rfl _ _ 26 rfl w.heap.size 42 i (.agg #[.int .i64 0, .int .i64 0]) 2 16 Try.underlying26 hi hz hs hby rfl (by decide) (.slice (some ⟨w.heap.size, 0, none⟩) 0 0) 0 [] rfl (World.ownsRow_made w #[] 0 (Nat.le_refl _) (by unfold maxLen; omega) rfl) ⟨g, 0, none⟩ L.length cap (L.flatMap Tm.cells) rfl HLEN.out HN.out HONE.out (by unfold maxLen; omega) (by omega) (by simp) ?_; intro v' w2 hown2 hgrow2 _)
    go_ret
    refine ⟨_, rfl, by simpa using hown2, ((Only.refl [] w).alloc _).grown hgrow2 (fun k hk => .inr (by simp [Value.ownBlock] at hk; omega))⟩
theorem row_base2 {w : World} {base base' k n : Nat} {e : TypeId} {v : Value} {xs : List Value} (h : w.ownsRow base e k v n xs) (hb : base' ≤ base) : w.ownsRow base' e k v n xs := by
  refine ⟨h.1, ?_⟩
  rcases h.2 with hn | ⟨g, cap, cur, rfl, h1, h2⟩
  · exact .inl hn
  · exact .inr ⟨g, cap, cur, rfl, Nat.le_trans hb h1, h2⟩
set_option maxRecDepth 100000 in
set_option maxHeartbeats 1000000 in
theorem timAll_at {w : World} {t : Nat} {F : List Nat} {S : List Tm} (h : TimAt w t F S) :
    Calls Try.prog 18 #[.pointer (some ⟨t, 0, none⟩)] w fun e w' => ∃ v, e = .returned v ∧ w'.ownsRow w.heap.size 42 2 v S.length (S.flatMap Tm.cells) ∧ Only [] w w' := by
  have hOA : Only [] w (w.alloc (.cells #[.pointer (some ⟨t, 0, none⟩)] 24)) := (Only.refl [] w).alloc _
  have hA := h.only hOA (by simp)
  have hv : (w.alloc (.cells #[.pointer (some ⟨t, 0, none⟩)] 24)).heap[w.heap.size]? = some (.cells #[.pointer (some ⟨t, 0, none⟩)] 24 (0, 0)) := heap_alloc_at rfl
  have hsz : (w.alloc (.cells #[.pointer (some ⟨t, 0, none⟩)] 24)).heap.size = w.heap.size + 1 := by simp
  generalize hW : w.alloc (.cells #[.pointer (some ⟨t, 0, none⟩)] 24) = W at *
  have hok := hA.ok
  obtain ⟨p, bm, v, L, ht, hP, hh, hp, rfl⟩ := hA.obj
  have a0 := cell_at (o := 0) hv rfl
  have a1 := cell_at (o := 0) ht rfl
  have a2 := hP.c0
  have b0 : W.cell? ⟨w.heap.size, 0, none⟩ = some (.pointer (some ⟨t, 0, none⟩)) := a0
  have b1 : W.cell? ⟨t, 0, none⟩ = some (.pointer (some ⟨p, 0, none⟩)) := a1
  have b2 := hP.c2
  have hfew := hP.few
  have HP := Lib.hid hP
  have HPM := Lib.hid hp
  have HOK := Lib.hid hok
  have HO := Lib.hid hOA
  have HB0 := Lib.hid b0
  have HB1 := Lib.hid b1
  have HB2 := Lib.hid b2
  have HSZ := Lib.hid hsz
  clear h hA hv ht hP hh hp hok hOA b0 b1 b2 hsz
  go_enter Try.func18, Try.ntmps18
  go_wp2_with fail
  refine (clone_at HP.out.row hfew).mono ?_
  rintro e w1 ⟨v1, rfl, hown1, hO1⟩
  have HOWN := Lib.hid hown1
  have k0 := hO1.cell HB0.out (by simp)
  have k1 := hO1.cell HB1.out (by simp)
  have k2 := hO1.cell HB2.out (by simp)
  have HO1 := Lib.hid (HO.out.trans hO1)
  clear hO1 hown1
  go_wp2_with fail
  rcases HOWN.out.2 with ⟨rfl, h0⟩ | ⟨g, cap, cur, rfl, hgb, _⟩
  · have hL : L = [] := List.eq_nil_of_length_eq_zero h0
    have hS : S = [] := by have := HPM.out; rw [hL] at this; exact this.nil_eq.symm
    have HS := Lib.hid hS
    clear hL hS h0
    refine (AnyF.slices_SortFunc_none Try.laysSF none 0 _ _).mono ?_
    rintro e w2 ⟨rfl, rfl⟩
    go_wp2_with fail
    go_ret
    rw [HS.out]
    exact ⟨_, rfl, World.ownsRow_nil _ _ _ _, HO1.out⟩
  · have l0 := World.block_lt_of_cell? _ _ HB0.out
    have l1 := World.block_lt_of_cell? _ _ HB1.out
    have l2 := World.block_lt_of_cell? _ _ HB2.out
    refine (sortTm_at HOWN.out HPM.out HOK.out.sorted HOK.out.ids hfew k0 k1 k2 (by simp at l0; omega) (by simp at l1; omega) (by simp at l2; omega)).mono ?_
    rintro e w2 ⟨rfl, hown2, hO2⟩
    have HOWN2 := Lib.hid hown2
    have HO2 := Lib.hid (HO1.out.call hO2 (fun b hb => .inr (by simp at hb; subst hb; have := HSZ.out; omega)))
    clear hown2 hO2
    go_wp2_with fail
    go_ret
    have h5 := row_base2 HOWN2.out (by have := HSZ.out; omega : w.heap.size ≤ W.heap.size)
    have hle := HPM.out.length_eq
    rw [← hle] at h5
    refine ⟨_, rfl, ?_, HO2.out⟩
    rw [← hle]
    exact h5
end Go.Proofs.Ytimhccpfgpiecaa
