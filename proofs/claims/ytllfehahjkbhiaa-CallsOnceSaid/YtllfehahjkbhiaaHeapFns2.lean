/- container/heap over a pile: Fix, Push, Remove, Pop. -/
import Derived.Test.YtllfehahjkbhiaaHeapFns
namespace Go.Proofs.Ytllfehahjkbhiaa
open Go.RowKit Go.Lib
set_option linter.unusedSimpArgs false
set_option linter.unusedVariables false
theorem DnOk.of_hp {n i : Nat} {L L' : List Tm} (h : Hp n L) (hn : n ≤ L.length) (he : ∀ k, k < n → k ≠ i → L'[k]? = L[k]?) : DnOk n L' i i := by
  refine ⟨fun c x y hc h0 hp hci hx hy => ?_, fun c x y hc h0 hp hi0 hx hy => ?_⟩
  · rw [he _ (by omega) hp] at hx
    rw [he c hc (hci rfl)] at hy
    exact h c x y hc h0 hx hy
  · have hz : L[i]? = some (L[i]'(by omega)) := List.getElem?_eq_getElem _
    rw [he _ (by omega) (by omega)] at hx
    rw [he c hc (by omega)] at hy
    exact Tm.nlt_trans (h i _ _ (by omega) hi0 hx hz) (h c _ _ hc h0 (by rw [hp]; exact hz) hy)
theorem UpOk.of_hp {L : List Tm} (h : Hp L.length L) (t : Tm) : UpOk (L.length + 1) (L ++ [t]) L.length := by
  refine ⟨fun c x y hc h0 hne hx hy => ?_, fun c x y hc h0 hp hi0 hx hy => by omega⟩
  rw [List.getElem?_append_left (by omega)] at hx hy
  exact h c x y (by omega) h0 hx hy
theorem Hp.sub {n : Nat} {L L' : List Tm} (h : Hp n L) (he : ∀ k, k < n → L'[k]? = L[k]?) : Hp n L' := fun c x y hc h0 hx hy => by
  rw [he _ (by omega)] at hx
  rw [he c hc] at hy
  exact h c x y hc h0 hx hy
theorem perm_last (M : List Tm) (x : Tm) : (M ++ [x]).Perm (x :: M) := List.perm_append_comm (l₁ := M) (l₂ := [x])
/-- A list whose last is known. -/
theorem last_split {L : List Tm} {n : Nat} {x : Tm} (hl : L.length = n + 1) (hx : L[n]? = some x) : ∃ M, L = M ++ [x] ∧ M.length = n := by
  refine ⟨L.take n, ?_, by simp; omega⟩
  obtain ⟨hk, rfl⟩ := List.getElem?_eq_some_iff.1 hx
  rw [← List.take_succ_eq_append_getElem hk, List.take_of_length_le (by omega)]
set_option maxRecDepth 100000 in
set_option maxHeartbeats 2000000 in
theorem fix_at {w : World} {p bm : Nat} {v : Value} {L : List Tm} (h : PileAt w p bm v L) {i : Nat} (hdn : DnOk L.length L i i) (hi : i < L.length) :
    Calls Try.prog 34 #[.iface 79 (.pointer (some ⟨p, 0, none⟩)), .int .i64 i] w fun e w' => e = .returned (.tuple #[]) ∧ ∃ L', PileAt w' p bm v L' ∧ L'.Perm L ∧ Hp L'.length L' ∧ Only (bm :: v.ownBlock.toList) w w' := by
  have m1 := method_Len p
  have H := Lib.hid h
  have HD := Lib.hid hdn
  clear h hdn
  go_enter Try.func34, Try.ntmps34
  go_wp2_with fail
  refine (pileLen_at H.out).mono ?_
  rintro e w1 ⟨rfl, rfl⟩
  go_wp2_with fail
  refine (down_at H.out HD.out (by omega) (Nat.le_refl _)).mono ?_
  rintro e w2 ⟨b, L2, rfl, hP, hperm, hT, hF, hS, hO⟩
  have hlen := hperm.length_eq
  have HP := Lib.hid hP
  have HPM := Lib.hid hperm
  have HT := Lib.hid hT
  have HF := Lib.hid hF
  have HO := Lib.hid hO
  clear hP hperm hT hF hS hO
  cases b with
  | true =>
    go_wp2_with fail
    go_end0
    exact ⟨rfl, L2, HP.out, HPM.out, by rw [hlen]; exact HT.out (by trivial), HO.out⟩
  | false =>
    go_wp2_with fail
    refine (up_at HP.out (HF.out (by trivial)) hi (by omega)).mono ?_
    rintro e w3 ⟨rfl, L3, hP3, hperm3, hH, _, hO3⟩
    have HP3 := Lib.hid hP3
    have HPM3 := Lib.hid (hperm3.trans HPM.out)
    have HH := Lib.hid hH
    have HO3 := Lib.hid (HO.out.trans hO3)
    clear hP3 hperm3 hH hO3
    go_wp2_with fail
    go_end0
    exact ⟨rfl, L3, HP3.out, HPM3.out, by rw [HPM3.out.length_eq]; exact HH.out, HO3.out⟩
set_option maxRecDepth 100000 in
set_option maxHeartbeats 2000000 in
theorem hpush_at {w : World} {p bm : Nat} {v : Value} {L : List Tm} (h : PileAt w p bm v L) (hhp : Hp L.length L) (t : Tm) (hnew : ∀ x ∈ L, x.id ≠ t.id) (hroom : L.length < 1048576) :
    Calls Try.prog 35 #[.iface 79 (.pointer (some ⟨p, 0, none⟩)), .iface 92 (.agg #[.int .i64 t.id, .int .i64 t.at_])] w fun e w' => e = .returned (.tuple #[]) ∧ ∃ v' L', PileAt w' p bm v' L' ∧ L'.Perm (L ++ [t]) ∧ Hp L'.length L' ∧ Only (p :: bm :: v.ownBlock.toList) w w' ∧ ∀ g, v'.ownBlock = some g → v.ownBlock = some g ∨ w.heap.size ≤ g := by
  have m1 := method_Len p
  have m2 := method_Push p
  have H := Lib.hid h
  have HH := Lib.hid hhp
  have HN := Lib.hid hnew
  clear h hhp hnew
  go_enter Try.func35, Try.ntmps35
  go_wp2_with fail
  refine (pilePush_at H.out t HN.out hroom).mono ?_
  rintro e w1 ⟨rfl, v1, hP, hO, hf⟩
  have HP := Lib.hid hP
  have HO := Lib.hid hO
  have HF := Lib.hid hf
  clear hP hO hf
  go_wp2_with fail
  refine (pileLen_at HP.out).mono ?_
  rintro e w2 ⟨rfl, rfl⟩
  have hlen : (L ++ [t]).length = L.length + 1 := by simp
  rw [hlen]
  go_wp2_with fail
  refine (up_at HP.out (UpOk.of_hp HH.out t) (by omega) (by simp)).mono ?_
  rintro e w3 ⟨rfl, L3, hP3, hperm3, hH, _, hO3⟩
  have HP3 := Lib.hid hP3
  have HPM3 := Lib.hid hperm3
  have HH3 := Lib.hid hH
  have HO3 := Lib.hid (HO.out.call hO3 (fun b hb => by
    simp at hb
    rcases hb with rfl | hb
    · exact .inl (by simp)
    · rcases HF.out b hb with h | h
      · exact .inl (by simp [h])
      · exact .inr h))
  clear hP3 hperm3 hH hO3
  go_wp2_with fail
  go_end0
  exact ⟨rfl, v1, L3, HP3.out, HPM3.out, by rw [HPM3.out.length_eq, hlen]; exact HH3.out, HO3.out, HF.out⟩
/-- The first of a heap is taken off. -/
theorem pop_dn {n : Nat} {L : List Tm} {i : Nat} (h : Hp L.length L) (hl : L.length = n + 1) {x y : Tm} (hx : L[i]? = some x) (hy : L[n]? = some y) : DnOk n (sw L i n x y) i i := by
  refine DnOk.of_hp (L := L) (fun c a b hc => h c a b (by omega)) (by omega) fun k hk hne => ?_
  rw [sw_get hx hy, if_neg (by omega), if_neg hne]
set_option maxRecDepth 100000 in
set_option maxHeartbeats 2000000 in
theorem hpop_at {w : World} {p bm : Nat} {v : Value} {L : List Tm} (h : PileAt w p bm v L) (hhp : Hp L.length L) {x : Tm} (hx : L[0]? = some x) :
    Calls Try.prog 37 #[.iface 79 (.pointer (some ⟨p, 0, none⟩))] w fun e w' => (∃ r, e = .returned r) ∧ ∃ v' L', PileAt w' p bm v' L' ∧ L.Perm (x :: L') ∧ Hp L'.length L' ∧ Only (p :: bm :: v.ownBlock.toList) w w' ∧ v'.ownBlock = v.ownBlock := by
  have m1 := method_Len p
  have m2 := method_Swap p
  have m3 := method_Pop p
  have hl0 := (List.getElem?_eq_some_iff.1 hx).1
  have hfew := h.few
  obtain ⟨n, hn⟩ : ∃ n, L.length = n + 1 := ⟨L.length - 1, by omega⟩
  obtain ⟨y, hy⟩ : ∃ y, L[n]? = some y := ⟨_, List.getElem?_eq_getElem (by omega)⟩
  have hdn := pop_dn hhp hn hx hy
  have H := Lib.hid h
  have HD := Lib.hid hdn
  have HX := Lib.hid hx
  have HY := Lib.hid hy
  have HN := Lib.hid hn
  have hnl : n ≤ 1048576 := by omega
  have hw1 : IntKind.i64.wrap (n : Int) = n := IntWalk.i64_in _ (by omega)
  clear h hdn hx hy hhp hl0 hfew hn
  go_enter Try.func37, Try.ntmps37
  go_wp2_with fail
  refine (pileLen_at H.out).mono ?_
  rintro e w1 ⟨rfl, rfl⟩
  rw [HN.out]
  go_wp2_with fail
  refine (pileSwap_atI H.out HX.out HY.out rfl (by omega)).mono ?_
  rintro e w2 ⟨rfl, hP, hO⟩
  have HP := Lib.hid hP
  have HO := Lib.hid hO
  clear hP hO
  go_wp2_with fail
  refine (down_at HP.out HD.out (Nat.zero_le _) (by rw [sw_len, HN.out]; omega)).mono ?_
  rintro e w3 ⟨b, L2, rfl, hP2, hperm, hT, hF, hS, hO2⟩
  have hl2 : L2.length = n + 1 := by rw [hperm.length_eq, sw_len, HN.out]
  have hx2 : L2[n]? = some x := by rw [hS n (Nat.le_refl _), sw_get HX.out HY.out, if_pos rfl]
  obtain ⟨M, hM, hMl⟩ := last_split hl2 hx2
  have hHp : Hp n L2 := by
    cases b with
    | true => exact hT rfl
    | false => exact (hF rfl).done (fun _ _ h => by omega)
  have hHM : Hp M.length M := by
    rw [hMl]
    refine hHp.sub fun k hk => ?_
    rw [hM, List.getElem?_append_left (by omega)]
  have hpM : L.Perm (x :: M) := by
    have h1 := hperm.trans (sw_perm HX.out HY.out)
    rw [hM] at h1
    exact h1.symm.trans (perm_last M x)
  rw [hM] at hP2
  have HP2 := Lib.hid hP2
  have HO2 := Lib.hid (HO.out.trans hO2)
  have HHM := Lib.hid hHM
  have HPM := Lib.hid hpM
  clear hP2 hperm hT hF hS hO2 hHp hHM hpM hl2 hx2
  go_wp2_with fail
  refine (pilePop_at HP2.out).mono ?_
  rintro e w4 ⟨rfl, v4, hP4, hO4, hv4⟩
  have HP4 := Lib.hid hP4
  have HO4 := Lib.hid hO4
  have HV4 := Lib.hid hv4
  clear hP4 hO4 hv4
  go_wp2_with fail
  go_ret
  refine ⟨⟨_, rfl⟩, v4, M, HP4.out, HPM.out, HHM.out, ?_, HV4.out⟩
  exact (HO2.out.mono (fun b hb => .inl (by simp at hb ⊢; exact .inr hb))).trans (HO4.out.mono (fun b hb => .inl (by simp at hb ⊢; omega)))
set_option maxRecDepth 100000 in
set_option maxHeartbeats 2000000 in
theorem hremove_at {w : World} {p bm : Nat} {v : Value} {L : List Tm} (h : PileAt w p bm v L) (hhp : Hp L.length L) {i : Nat} {x : Tm} (hx : L[i]? = some x) :
    Calls Try.prog 38 #[.iface 79 (.pointer (some ⟨p, 0, none⟩)), .int .i64 i] w fun e w' => (∃ r, e = .returned r) ∧ ∃ v' L', PileAt w' p bm v' L' ∧ L.Perm (x :: L') ∧ Hp L'.length L' ∧ Only (p :: bm :: v.ownBlock.toList) w w' ∧ v'.ownBlock = v.ownBlock := by
  have m1 := method_Len p
  have m2 := method_Swap p
  have m3 := method_Pop p
  have hl0 := (List.getElem?_eq_some_iff.1 hx).1
  have hfew := h.few
  obtain ⟨n, hn⟩ : ∃ n, L.length = n + 1 := ⟨L.length - 1, by omega⟩
  obtain ⟨y, hy⟩ : ∃ y, L[n]? = some y := ⟨_, List.getElem?_eq_getElem (by omega)⟩
  have hdn := pop_dn hhp hn hx hy
  have H := Lib.hid h
  have HD := Lib.hid hdn
  have HX := Lib.hid hx
  have HY := Lib.hid hy
  have HN := Lib.hid hn
  have HH := Lib.hid hhp
  have hnl : n ≤ 1048576 := by omega
  have hin : i ≤ n := by omega
  have hw1 : IntKind.i64.wrap (n : Int) = n := IntWalk.i64_in _ (by omega)
  clear h hdn hx hy hhp hl0 hfew hn
  go_enter Try.func38, Try.ntmps38
  go_wp2_with fail
  refine (pileLen_at H.out).mono ?_
  rintro e w1 ⟨rfl, rfl⟩
  rw [HN.out]
  by_cases hni : n = i
  · subst hni
    have hxy : y = x := by have := HX.out; rw [HY.out] at this; cases this; rfl
    have hz : ((n : Int) != n) = false := by simp
    obtain ⟨M, hM, hMl⟩ := last_split HN.out HX.out
    have hHM : Hp M.length M := by
      rw [hMl]
      refine Hp.sub (L := L) (fun c a b hc => HH.out c a b (by rw [HN.out]; omega)) fun k hk => ?_
      rw [hM, List.getElem?_append_left (by omega)]
    have hpM : L.Perm (x :: M) := by rw [hM]; exact (perm_last M x)
    have hP := H.out
    rw [hM] at hP
    have HP := Lib.hid hP
    have HHM := Lib.hid hHM
    have HPM := Lib.hid hpM
    clear hP hHM hpM hM
    go_wp2_with fail
    refine (pilePop_at HP.out).mono ?_
    rintro e w4 ⟨rfl, v4, hP4, hO4, hv4⟩
    have HP4 := Lib.hid hP4
    have HO4 := Lib.hid hO4
    have HV4 := Lib.hid hv4
    clear hP4 hO4 hv4
    go_wp2_with fail
    go_ret
    exact ⟨⟨_, rfl⟩, v4, M, HP4.out, HPM.out, HHM.out, HO4.out.mono (fun b hb => .inl (by simp at hb ⊢; omega)), HV4.out⟩
  · have hz : ((n : Int) != i) = true := by simp; omega
    have hz2 : ¬ (n : Int) = i := by omega
    go_wp2_with fail
    refine (pileSwap_atI H.out HX.out HY.out rfl (by omega)).mono ?_
    rintro e w2 ⟨rfl, hP, hO⟩
    have HP := Lib.hid hP
    have HO := Lib.hid hO
    clear hP hO
    go_wp2_with fail
    refine (down_at HP.out HD.out (by rw [sw_len, HN.out]; omega) (by rw [sw_len, HN.out]; omega)).mono ?_
    rintro e w3 ⟨b, L2, rfl, hP2, hperm, hT, hF, hS, hO2⟩
    have hl2 : L2.length = n + 1 := by rw [hperm.length_eq, sw_len, HN.out]
    have hx2 : L2[n]? = some x := by rw [hS n (Nat.le_refl _), sw_get HX.out HY.out, if_pos rfl]
    have hpl : L2.Perm L := hperm.trans (sw_perm HX.out HY.out)
    have HP2 := Lib.hid hP2
    have HO2 := Lib.hid (HO.out.trans hO2)
    have HL2 := Lib.hid hl2
    have HX2 := Lib.hid hx2
    have HPL := Lib.hid hpl
    clear hperm hS hO2 hl2 hx2 hpl
    cases b with
    | true =>
      have HHp := Lib.hid (hT rfl)
      clear hT hF
      obtain ⟨M, hM, hMl⟩ := last_split HL2.out HX2.out
      have hHM : Hp M.length M := by
        rw [hMl]
        refine HHp.out.sub fun k hk => ?_
        rw [hM, List.getElem?_append_left (by omega)]
      have hpM : L.Perm (x :: M) := by
        have h1 := HPL.out
        rw [hM] at h1
        exact h1.symm.trans (perm_last M x)
      rw [hM] at hP2
      have HP2' := Lib.hid hP2
      have HHM := Lib.hid hHM
      have HPM := Lib.hid hpM
      clear hP2 hHM hpM hM HP2
      go_wp2_with fail
      refine (pilePop_at HP2'.out).mono ?_
      rintro e w4 ⟨rfl, v4, hP4, hO4, hv4⟩
      have HP4 := Lib.hid hP4
      have HO4 := Lib.hid hO4
      have HV4 := Lib.hid hv4
      clear hP4 hO4 hv4
      go_wp2_with fail
      go_ret
      refine ⟨⟨_, rfl⟩, v4, M, HP4.out, HPM.out, HHM.out, ?_, HV4.out⟩
      exact (HO2.out.mono (fun b hb => .inl (by simp at hb ⊢; exact .inr hb))).trans (HO4.out.mono (fun b hb => .inl (by simp at hb ⊢; omega)))
    | false =>
      have HU := Lib.hid (hF rfl)
      clear hT hF hP2
      go_wp2_with fail
      refine (up_at HP2.out HU.out (by omega) (by rw [HL2.out]; omega)).mono ?_
      rintro e w5 ⟨rfl, L5, hP5, hperm5, hH5, hS5, hO5⟩
      have hl5 : L5.length = n + 1 := by rw [hperm5.length_eq, HL2.out]
      have hx5 : L5[n]? = some x := by rw [hS5 n (Nat.le_refl _), HX2.out]
      obtain ⟨M, hM, hMl⟩ := last_split hl5 hx5
      have hHM : Hp M.length M := by
        rw [hMl]
        refine hH5.sub fun k hk => ?_
        rw [hM, List.getElem?_append_left (by omega)]
      have hpM : L.Perm (x :: M) := by
        have h1 := hperm5.trans HPL.out
        rw [hM] at h1
        exact h1.symm.trans (perm_last M x)
      rw [hM] at hP5
      have HP5 := Lib.hid hP5
      have HHM := Lib.hid hHM
      have HPM := Lib.hid hpM
      have HO5 := Lib.hid (HO2.out.trans hO5)
      clear hP5 hHM hpM hM hO5 hperm5 hH5 hS5 hl5 hx5
      go_wp2_with fail
      refine (pilePop_at HP5.out).mono ?_
      rintro e w4 ⟨rfl, v4, hP4, hO4, hv4⟩
      have HP4 := Lib.hid hP4
      have HO4 := Lib.hid hO4
      have HV4 := Lib.hid hv4
      clear hP4 hO4 hv4
      go_wp2_with fail
      go_ret
      refine ⟨⟨_, rfl⟩, v4, M, HP4.out, HPM.out, HHM.out, ?_, HV4.out⟩
      exact (HO5.out.mono (fun b hb => .inl (by simp at hb ⊢; exact .inr hb))).trans (HO4.out.mono (fun b hb => .inl (by simp at hb ⊢; omega)))
end Go.Proofs.Ytllfehahjkbhiaa
