/- Timers: Stop, Due. -/
import Derived.Test.YtllfehahjkbhiaaTimSet
namespace Go.Proofs.Ytllfehahjkbhiaa
open Go.RowKit Go.Lib
set_option linter.unusedSimpArgs false
set_option linter.unusedVariables false
theorem timStop_nil (id : Int) (w : World) : Calls Try.prog 32 #[.pointer none, .int .i64 id] w fun e w' => e = .returned (.bool false) ∧ w = w' := by
  go_enter Try.func32, Try.ntmps32
  go_wp2_with fail
  go_ret
  exact ⟨rfl, rfl⟩
theorem perm_tout {L M : List Tm} {x : Tm} (hp : L.Perm (x :: M)) (hn : (L.map Tm.id).Nodup) : M.Perm (tout x.id L) := by
  have h1 : ((x :: M).map Tm.id).Nodup := ((hp.map Tm.id).nodup_iff).1 hn
  rw [List.map_cons, List.nodup_cons] at h1
  have h2 := tout_perm hp x.id
  have h3 : tout x.id (x :: M) = M := by
    unfold tout
    rw [List.filter_cons_of_neg (by simp), List.filter_eq_self.2]
    intro a ha
    simp only [bne_iff_ne, ne_eq]
    exact fun e => h1.1 (List.mem_map.2 ⟨a, ha, e⟩)
  rw [h3] at h2
  exact h2.symm
set_option maxRecDepth 100000 in
set_option maxHeartbeats 2000000 in
theorem timStop_at {w : World} {t : Nat} {F : List Nat} {S : List Tm} (h : TimAt w t F S) (id : Int) :
    Calls Try.prog 32 #[.pointer (some ⟨t, 0, none⟩), .int .i64 id] w fun e w' => e = .returned (.bool (thas S id)) ∧ TimAt w' t F (tout id S) ∧ Only F w w' := by
  have H0 := Lib.hid h
  obtain ⟨p, bm, v, L, ht, hP, hh, hp, rfl⟩ := h.obj
  have c0 := cell_at (o := 0) ht rfl
  have p0 := hP.c0
  have p1 := hP.c1
  obtain ⟨es, ck, l, hb, hM, hI⟩ := hP.hm
  have HOK := Lib.hid h.ok
  have HT := Lib.hid ht
  have HP := Lib.hid hP
  have HH := Lib.hid hh
  have HPM := Lib.hid hp
  have HI := Lib.hid hI
  clear h ht hP hh hp
  cases hg : mget id l with
  | some u =>
    obtain ⟨i, x, hx, hxi, rfl⟩ := hI.only id u hg
    have hrun := run_mlookup_some (P := Try.prog) (c := true) Try.underlying80 Try.underlying3 hb hM hg
    rw [if_pos rfl] at hrun
    have hth : thas S id = true := List.any_eq_true.2 ⟨x, HPM.out.mem_iff.1 (List.mem_of_getElem? hx), by simpa using hxi⟩
    have HX := Lib.hid hx
    have HXI := Lib.hid hxi
    have HTH := Lib.hid hth
    clear hb hM hI hg hx hxi hth
    go_enter Try.func32, Try.ntmps32
    go_wp2_with fail
    refine (hremove_at HP.out HH.out HX.out).mono ?_
    rintro e w3 ⟨⟨r, rfl⟩, v3, L3, hP3, hperm3, hH3, hO3, hv3⟩
    obtain ⟨n1, n2, n3⟩ := tim_ne HT.out HP.out
    have hp3 : L3.Perm (tout id S) := by
      have := perm_tout hperm3 HI.out.nodup
      rw [HXI.out] at this
      exact this.trans (tout_perm HPM.out id)
    have HP3 := Lib.hid hP3
    have HPM3 := Lib.hid hp3
    have HH3 := Lib.hid hH3
    have HT3 := Lib.hid (hO3.keep HT.out (by simp; exact ⟨n1, n2, fun e => n3 t e rfl⟩))
    have HO3 := Lib.hid (hO3.mono (G := t :: p :: bm :: v.ownBlock.toList) (fun b hb => .inl (by simp at hb ⊢; exact .inr hb)))
    have HV3 := Lib.hid hv3
    clear hP3 hperm3 hH3 hO3 hp3 hv3
    go_wp2_with fail
    go_ret
    rw [HTH.out]
    exact ⟨rfl, ⟨HOK.out.sub (tout_sub _ _), p, bm, v3, L3, HT3.out, HP3.out, HH3.out, HPM3.out, by rw [HV3.out]⟩, HO3.out⟩
  | none =>
    have hneS : ∀ y ∈ S, y.id ≠ id := fun y hy e => by
      obtain ⟨k, hk⟩ := List.getElem?_of_mem (HPM.out.mem_iff.2 hy)
      have := hI.at_ k y hk
      rw [e, hg] at this; cases this
    have hto := tout_none hneS
    have hth : thas S id = false := by
      unfold thas
      rw [List.any_eq_false]
      intro y hy
      simpa using hneS y hy
    obtain ⟨i3, hi3, hz3, hs3, hb3⟩ := info_parts info_tint
    have hrun := run_mlookup_none (P := Try.prog) Try.underlying80 Try.underlying3 hi3 hz3 hb hM hg true
    rw [if_pos rfl] at hrun
    have HTO := Lib.hid hto
    have HTH := Lib.hid hth
    clear hb hM hI hg hneS hto hi3 hz3 hs3 hb3 hth
    go_enter Try.func32, Try.ntmps32
    go_wp2_with fail
    go_ret
    rw [HTH.out, HTO.out]
    exact ⟨rfl, H0.out, Only.refl _ _⟩
/-- Its first is taken off. -/
theorem timPop_at {w : World} {t p : Nat} {F : List Nat} {x : Tm} {r : List Tm} (h : TimAt w t F (x :: r)) (hp : w.cell? ⟨t, 0, none⟩ = some (.pointer (some ⟨p, 0, none⟩))) :
    Calls Try.prog 37 #[.iface 79 (.pointer (some ⟨p, 0, none⟩))] w fun e w' => (∃ r, e = .returned r) ∧ TimAt w' t F r ∧ Only F w w' ∧ w'.cell? ⟨t, 0, none⟩ = some (.pointer (some ⟨p, 0, none⟩)) := by
  obtain ⟨p', bm, v, L, ht, hP, hh, hpm, rfl⟩ := h.obj
  have e : p' = p := by have := cell_at (o := 0) ht rfl; rw [hp] at this; simp at this; exact this.symm
  subst e
  have hx : L[0]? = some x := (first_eq hpm hh h.ok.sorted).trans rfl
  obtain ⟨n1, n2, n3⟩ := tim_ne ht hP
  refine (hpop_at hP hh hx).mono ?_
  rintro e w3 ⟨hr, v3, L3, hP3, hperm3, hH3, hO3, hv3⟩
  have ht3 := hO3.keep ht (by simp; exact ⟨n1, n2, fun e => n3 t e rfl⟩)
  refine ⟨hr, ⟨h.ok.sub (List.sublist_cons_self ..), p', bm, v3, L3, ht3, hP3, hH3, ?_, by rw [hv3]⟩, hO3.mono (fun b hb => .inl (by simp at hb ⊢; exact .inr hb)), cell_at ht3 rfl⟩
  exact ((hperm3.symm.trans hpm).cons_inv)
def lenV : Value → Nat
  | .slice _ n _ => n
  | _ => 0
theorem cell_one_new' (w : World) (v : Value) (E : TypeId) {N : Nat} (hN : N = w.heap.size) : ∀ (j : Nat) (u : Value), [v][j]? = some u → (w.alloc (.cells #[v] E)).cell? ((⟨N, 0, none⟩ : Addr).add j) = some u := by
  intro j u hu
  cases j with
  | zero => simp at hu; subst hu; exact cell_at (heap_alloc_at hN) rfl
  | succ j => simp at hu
set_option maxRecDepth 100000 in
set_option maxHeartbeats 2000000 in
theorem timDue_nil (now : Int) (w : World) : Calls Try.prog 30 #[.pointer none, .int .i64 now] w fun e w' => e = .returned (.slice none 0 0) ∧ Only [] w w' := by
  go_enter Try.func30, Try.ntmps30
  go_wp2_with fail
  refine wp_loop_rounds 1 ?_
  rw [rounds_succ]
  go_wp2_with fail
  refine (timNext_nil _).mono ?_
  rintro e w1 ⟨rfl, hO⟩
  have HO := Lib.hid hO
  clear hO
  go_wp2_with fail
  go_ret
  exact ⟨rfl, (HO.out.alloc _)⟩
set_option maxRecDepth 100000 in
set_option maxHeartbeats 4000000 in
theorem timDue_at {w : World} {t : Nat} {F : List Nat} {S : List Tm} (h : TimAt w t F S) (now : Int) :
    Calls Try.prog 30 #[.pointer (some ⟨t, 0, none⟩), .int .i64 now] w fun e w' => ∃ v, e = .returned v ∧ w'.ownsRow w.heap.size 3 1 v ((tdue S now).map Tm.id).length (((tdue S now).map Tm.id).map (Value.int .i64)) ∧ TimAt w' t F (trest S now) ∧ Only F w w' := by
  have hF := h.lt
  have hfew := h.ok.few
  obtain ⟨p, _, _, _, ht, _, _, _, _⟩ := h.obj
  have c0 := cell_at (o := 0) ht rfl
  obtain ⟨i3, hi3, hz3, hs3, hb3⟩ := info_parts info_tint
  have htl := lt_of_heap ht
  have H := Lib.hid h
  have C0 := Lib.hid c0
  have HF := Lib.hid hF
  clear h ht c0 hF
  go_enter Try.func30, Try.ntmps30
  go_wp2_with fail
  go_loopw [5] (fun v wr => ∃ (zs : List Int) (R : List Tm), zs.length + R.length = S.length ∧ TimAt wr t F R ∧ wr.ownsRow w.heap.size 3 1 v zs.length (zs.map (Value.int .i64)) ∧ zs ++ (tdue R now).map Tm.id = (tdue S now).map Tm.id ∧ trest R now = trest S now ∧ Only F w wr ∧ wr.cell? ⟨t, 0, none⟩ = some (.pointer (some ⟨p, 0, none⟩)) ∧ lenV v = zs.length) (fun v _ => S.length - lenV v)
  case atStart => exact ⟨[], S, by simp, H.out, World.ownsRow_nil _ _ _ _, rfl, rfl, Only.refl _ _, C0.out, rfl⟩
  case round =>
    obtain ⟨zs, R, hlen, hT, hown, hdue, hrest, hO, hc, hlv⟩ := hrel
    have HT := Lib.hid hT
    have HOWN := Lib.hid hown
    have HD := Lib.hid hdue
    have HR := Lib.hid hrest
    have HO := Lib.hid hO
    have HC := Lib.hid hc
    have HLV := Lib.hid hlv
    clear hT hown hdue hrest hO hc hlv
    go_wp2_with fail
    refine (timNext_at HT.out).mono ?_
    rintro e w1 ⟨rfl, hO1⟩
    have HT1 := Lib.hid (HT.out.only hO1 (by simp))
    have HO1 := Lib.hid (HO.out.trans (hO1.mono (by simp)))
    have HC1 := Lib.hid (hO1.cell HC.out (by simp))
    have HOWN1 := Lib.hid (row_keep HOWN.out fun g hg => hO1.block g (HOWN.out.lt g hg).2 (by simp))
    clear hO1
    cases R with
    | nil =>
      have hz : zs = (tdue S now).map Tm.id := by have := HD.out; simpa [tdue] using this
      have hdec : decide (0 < ([] : List Tm).length) = false := by simp
      rw [hdec]
      unfold nextV
      have HZ := Lib.hid hz
      clear hz hdec
      go_wp2_with fail
      go_ret
      refine ⟨_, rfl, ?_, ?_, HO1.out.alloc _⟩
      · rw [← HZ.out]; exact HOWN1.out.alloc _
      · rw [← HR.out]; exact HT1.out.only ((Only.refl [] _).alloc _) (by simp)
    | cons x r =>
      have hdec : decide (0 < (x :: r).length) = true := by simp
      rw [hdec]
      by_cases hx : now < x.at_
      · have hx1 : decide (now < x.at_) = true := decide_eq_true hx
        obtain ⟨e1, e2⟩ := due_none HT.out.ok.sorted now (fun y hy => by simp at hy; subst hy; exact hx)
        have hz : zs = (tdue S now).map Tm.id := by have := HD.out; rw [e1] at this; simpa using this
        have hz2 : x :: r = trest S now := by rw [← HR.out, e2]
        have HZ := Lib.hid hz
        have HZ2 := Lib.hid hz2
        clear e1 e2 hz hz2
        unfold nextV
        go_wp2_with fail
        go_ret
        refine ⟨_, rfl, ?_, ?_, HO1.out.alloc _⟩
        · rw [← HZ.out]; exact HOWN1.out.alloc _
        · rw [← HZ2.out]; exact HT1.out.only ((Only.refl [] _).alloc _) (by simp)
      · have hx1 : decide (now < x.at_) = false := decide_eq_false hx
        obtain ⟨e1, e2⟩ := due_cons (r := r) now (show x.at_ ≤ now by omega)
        have hd2 : (zs ++ [x.id]) ++ (tdue r now).map Tm.id = (tdue S now).map Tm.id := by have := HD.out; rw [e1] at this; simpa using this
        have hr2 : trest r now = trest S now := by rw [← HR.out, e2]
        have HD2 := Lib.hid hd2
        have HR2 := Lib.hid hr2
        clear e1 e2 hd2 hr2
        have hOA : Only [] w1 (w1.alloc (.cells #[.int .i64 x.id, .int .i64 x.at_] 92)) := (Only.refl [] w1).alloc _
        have hTA := HT1.out.only hOA (by simp)
        have hcA := hOA.cell HC1.out (by simp)
        have hOwA := HOWN1.out.alloc (.cells #[.int .i64 x.id, .int .i64 x.at_] 92)
        have hxA : (w1.alloc (.cells #[.int .i64 x.id, .int .i64 x.at_] 92)).heap[w1.heap.size]? = some (.cells #[.int .i64 x.id, .int .i64 x.at_] 92 (0, 0)) := heap_alloc_at rfl
        have HOA := Lib.hid (HO1.out.trans (hOA.mono (by simp)))
        have HTA := Lib.hid hTA
        have HOwA := Lib.hid hOwA
        have HXA := Lib.hid hxA
        have HCA := Lib.hid hcA
        clear hOA hTA hOwA hxA
        unfold nextV
        go_wp2_with fail
        refine (timPop_at HTA.out HCA.out).mono ?_
        rintro e w2 ⟨⟨rr, rfl⟩, hT2, hO2, hc2⟩
        have hw1 : w.heap.size ≤ w1.heap.size := HO1.out.size
        have hxF : w1.heap.size ∉ F := fun hm => by have := HF.out _ hm; omega
        have hx2 := hO2.keep HXA.out hxF
        have g0 := cell_at (o := 0) hx2 rfl
        have HT2 := Lib.hid hT2
        have HO2 := Lib.hid (HOA.out.trans hO2)
        have HC2 := Lib.hid hc2
        have HOw2 := Lib.hid (row_keep HOwA.out fun g hg => hO2.block g (HOwA.out.lt g hg).2 (fun hm => by have h1 := HF.out _ hm; have h2 := (HOwA.out.lt g hg).1; omega))
        have hs2 := hO2.size
        have hbound : zs.length + 1 ≤ 64 := by simp at hlen; omega
        have hbs : w.heap.size ≤ w2.heap.size := by simp at hs2; omega
        have HBS := Lib.hid hbs
        clear hT2 hO2 hc2 hx2 hs2 hxF hw1 hcA hbs
        go_wp2_with (at_builtin; go_must (refine wpList_append_own _ rfl _ _ 54 rfl w.heap.size 3 i3 (.int .i64 0) 1 8 Try.underlying54 hi3 hz3 hs3 hb3 rfl (by decide) u5 zs.length _ rfl (HOw2.out.alloc _) ⟨w2.heap.size, 0, none⟩ 1 1 [.int .i64 x.id] rfl rfl (cell_one_new' _ _ _ rfl) (by simp [Value.oneCell']) (by unfold maxLen; omega) (by omega) (by have := HBS.out; simp; omega) ?_); intro v' w3 hown3 hgrow3 _)
        have hlow : ∀ b, u5.ownBlock = some b → w.heap.size ≤ b := fun b hb => (HOw2.out.lt b hb).1
        have hO3 : Only u5.ownBlock.toList w2 w3 := ((Only.refl _ w2).alloc _).grown hgrow3 (fun k hk => .inl (by simp [hk]))
        have hlv : lenV v' = zs.length + 1 := by
          rcases hown3.2 with ⟨_, h0⟩ | ⟨g, cap, cur, rfl, _⟩
          · omega
          · rfl
        refine ⟨⟨zs ++ [x.id], r, by simp at hlen ⊢; omega, HT2.out.only hO3 (fun b hb hm => ?_), by simpa using hown3, HD2.out, HR2.out, HO2.out.call hO3 (fun b hb => .inr (hlow b (by simpa using hb))), hO3.cell HC2.out (fun hm => ?_), by simpa using hlv⟩, ?_⟩
        · have h1 := HF.out b hb
          have h2 := hlow b (by simpa using hm)
          omega
        · have h2 := hlow t (by simpa using hm)
          omega
        · rw [hlv, HLV.out]; simp at hlen; omega
end Go.Proofs.Ytllfehahjkbhiaa
