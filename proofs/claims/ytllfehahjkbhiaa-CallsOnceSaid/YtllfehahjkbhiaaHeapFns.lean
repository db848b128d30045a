/- container/heap over a pile: up, down, Fix, Push, Remove, Pop. -/
import Derived.Test.YtllfehahjkbhiaaPileOps
namespace Go.Proofs.Ytllfehahjkbhiaa
open Go.RowKit Go.Lib
set_option linter.unusedSimpArgs false
set_option linter.unusedVariables false
def pileI (p : Nat) : Value := .iface 79 (.pointer (some ⟨p, 0, none⟩))
theorem method_Less (p : Nat) (w : World) : (method 246 79 (.pointer (some ⟨p, 0, none⟩)) "Less").run Try.prog w = .ok (79, .pointer (some ⟨p, 0, none⟩)) w := by kernel_rfl
theorem method_Swap (p : Nat) (w : World) : (method 246 79 (.pointer (some ⟨p, 0, none⟩)) "Swap").run Try.prog w = .ok (82, .pointer (some ⟨p, 0, none⟩)) w := by kernel_rfl
theorem method_Len (p : Nat) (w : World) : (method 246 79 (.pointer (some ⟨p, 0, none⟩)) "Len").run Try.prog w = .ok (78, .pointer (some ⟨p, 0, none⟩)) w := by kernel_rfl
theorem method_Push (p : Nat) (w : World) : (method 246 79 (.pointer (some ⟨p, 0, none⟩)) "Push").run Try.prog w = .ok (81, .pointer (some ⟨p, 0, none⟩)) w := by kernel_rfl
theorem method_Pop (p : Nat) (w : World) : (method 246 79 (.pointer (some ⟨p, 0, none⟩)) "Pop").run Try.prog w = .ok (80, .pointer (some ⟨p, 0, none⟩)) w := by kernel_rfl
theorem nil_Less (p : Nat) (w : World) : (nilAhead 246 79 (.pointer (some ⟨p, 0, none⟩)) "Less").run Try.prog w = .ok (some false) w := by kernel_rfl
theorem PileAt.only {w w' : World} {p bm : Nat} {v : Value} {L : List Tm} (h : PileAt w p bm v L) {F : List Nat} (hO : Only F w w') (h1 : p ∉ F) (h2 : bm ∉ F) (h3 : ∀ g, v.ownBlock = some g → g ∉ F) : PileAt w' p bm v L := by
  refine ⟨hO.keep h.hp h1, row_keep h.row fun g hg => ?_, ?_, h.few⟩
  · exact hO.block g (h.row.lt g hg).2 (h3 g hg)
  · obtain ⟨es, ck, l, hb, hM, hI⟩ := h.hm
    exact ⟨es, ck, l, hO.keep hb h2, hM, hI⟩
theorem pileLess_atI {w : World} {p bm : Nat} {v : Value} {L : List Tm} (h : PileAt w p bm v L) {i j : Nat} {x y : Tm} (hx : L[i]? = some x) (hy : L[j]? = some y) {I J : Int} (hI : I = i) (hJ : J = j) :
    Calls Try.prog 79 #[.pointer (some ⟨p, 0, none⟩), .int .i64 I, .int .i64 J] w fun e w' => e = .returned (.bool (decide (x.lt y))) ∧ Only [] w w' := by
  subst hI hJ; exact pileLess_at h hx hy
theorem pileSwap_atI {w : World} {p bm : Nat} {v : Value} {L : List Tm} (h : PileAt w p bm v L) {i j : Nat} {x y : Tm} (hx : L[i]? = some x) (hy : L[j]? = some y) {I J : Int} (hI : I = i) (hJ : J = j) :
    Calls Try.prog 82 #[.pointer (some ⟨p, 0, none⟩), .int .i64 I, .int .i64 J] w fun e w' => e = .returned (.tuple #[]) ∧ PileAt w' p bm v (sw L i j x y) ∧ Only (bm :: v.ownBlock.toList) w w' := by
  subst hI hJ; exact pileSwap_at h hx hy
set_option maxRecDepth 100000 in
set_option maxHeartbeats 2000000 in
theorem up_at {w : World} {p bm : Nat} {v : Value} {L : List Tm} (h : PileAt w p bm v L) {n j : Nat} (hup : UpOk n L j) (hj : j < n) (hn : n ≤ L.length) :
    Calls Try.prog 42 #[.iface 79 (.pointer (some ⟨p, 0, none⟩)), .int .i64 j] w fun e w' => e = .returned (.tuple #[]) ∧ ∃ L', PileAt w' p bm v L' ∧ L'.Perm L ∧ Hp n L' ∧ (∀ k, n ≤ k → L'[k]? = L[k]?) ∧ Only (bm :: v.ownBlock.toList) w w' := by
  have hfew := h.few
  have m1 := method_Less p
  have m2 := method_Swap p
  have H := Lib.hid h
  have HU := Lib.hid hup
  clear h hup
  go_enter Try.func42, Try.ntmps42
  go_wp2_with fail
  go_loopw [1] (fun u wr => ∃ (k : Nat) (L' : List Tm), k < n ∧ u = .int .i64 k ∧ PileAt wr p bm v L' ∧ L'.Perm L ∧ UpOk n L' k ∧ (∀ k, n ≤ k → L'[k]? = L[k]?) ∧ Only (bm :: v.ownBlock.toList) w wr) (fun u _ => (intOf u).toNat)
  case atStart => exact ⟨j, L, hj, rfl, H.out, List.Perm.refl _, HU.out, fun _ _ => rfl, Only.refl _ _⟩
  case round =>
    obtain ⟨k, L', hk, rfl, hP, hperm, hU, hsame, hO⟩ := hrel
    have hlen := hperm.length_eq
    have HP := Lib.hid hP
    have HPM := Lib.hid hperm
    have HU := Lib.hid hU
    have HS := Lib.hid hsame
    have HO := Lib.hid hO
    clear hP hperm hU hsame hO
    by_cases hk0 : k = 0
    · subst hk0
      go_wp2_with fail
      go_end0
      exact ⟨rfl, L', HP.out, HPM.out, HU.out.done (fun _ _ h => by omega), HS.out, HO.out⟩
    · obtain ⟨q, hq⟩ : ∃ q, q = (k - 1) / 2 := ⟨_, rfl⟩
      obtain ⟨x, hx⟩ : ∃ x, L'[q]? = some x := ⟨_, List.getElem?_eq_getElem (by omega)⟩
      obtain ⟨y, hy⟩ : ∃ y, L'[k]? = some y := ⟨_, List.getElem?_eq_getElem (by omega)⟩
      have HX := Lib.hid hx
      have HY := Lib.hid hy
      clear hx hy
      have e1 : ((k : Int) - 1).tdiv 2 = q := by
        rw [Int.tdiv_eq_ediv_of_nonneg (by omega)]; omega
      have e2 : ((q : Int) == k) = false := by simp; omega
      have e3 : (q == k) = false := by simp; omega
      have e4 : ¬ (q : Int) = k := by omega
      have e5 : ¬ q = k := by omega
      have hqk : q < k := by omega
      have HQ := Lib.hid hq
      clear hq
      go_wp2_with fail
      refine (pileLess_at HP.out HY.out HX.out).mono ?_
      rintro e w1 ⟨rfl, hO⟩
      have HP1 := Lib.hid (HP.out.only hO (by simp) (by simp) (by simp))
      have HO1 := Lib.hid (HO.out.trans (hO.mono (by simp)))
      clear hO
      by_cases hlt : y.lt x
      · have hlt' : decide (y.lt x) = true := decide_eq_true hlt
        rw [hlt']
        go_wp2_with fail
        refine (pileSwap_at HP1.out HX.out HY.out).mono ?_
        rintro e w2 ⟨rfl, hP2, hO⟩
        have HP2 := Lib.hid hP2
        have HO2 := Lib.hid (HO1.out.trans hO)
        clear hP2 hO
        go_wp2_with fail
        have hst := HU.out.step (by omega) hk (by rw [← HQ.out]; exact HX.out) HY.out hlt
        rw [← HQ.out] at hst
        exact ⟨⟨q, sw L' q k x y, by omega, rfl, HP2.out, (sw_perm HX.out HY.out).trans HPM.out, hst, fun i hi => by rw [sw_get HX.out HY.out, if_neg (by omega), if_neg (by omega)]; exact HS.out i hi, HO2.out⟩, by simp [intOf]; omega⟩
      · have hlt' : decide (y.lt x) = false := decide_eq_false hlt
        rw [hlt']
        go_wp2_with fail
        go_end0
        refine ⟨rfl, L', HP1.out, HPM.out, HU.out.done (fun a b _ ha hb => ?_), HS.out, HO1.out⟩
        rw [← HQ.out, HX.out] at ha
        rw [HY.out] at hb
        cases ha; cases hb
        exact hlt
set_option maxRecDepth 100000 in
set_option maxHeartbeats 2000000 in
theorem down_at {w : World} {p bm : Nat} {v : Value} {L : List Tm} (h : PileAt w p bm v L) {n i0 : Nat} (hdn : DnOk n L i0 i0) (hi0 : i0 ≤ L.length) (hn : n ≤ L.length) :
    Calls Try.prog 41 #[.iface 79 (.pointer (some ⟨p, 0, none⟩)), .int .i64 i0, .int .i64 n] w fun e w' => ∃ b L', e = .returned (.bool b) ∧ PileAt w' p bm v L' ∧ L'.Perm L ∧ (b = true → Hp n L') ∧ (b = false → UpOk n L' i0) ∧ (∀ k, n ≤ k → L'[k]? = L[k]?) ∧ Only (bm :: v.ownBlock.toList) w w' := by
  have hfew := h.few
  have m1 := method_Less p
  have m2 := method_Swap p
  have H := Lib.hid h
  have HD := Lib.hid hdn
  clear h hdn
  go_enter Try.func41, Try.ntmps41
  go_wp2_with fail
  go_loopw [7] (fun u wr => ∃ (k : Nat) (L' : List Tm), i0 ≤ k ∧ (k = i0 ∨ k < n) ∧ u = .int .i64 k ∧ PileAt wr p bm v L' ∧ L'.Perm L ∧ DnOk n L' i0 k ∧ (∀ k, n ≤ k → L'[k]? = L[k]?) ∧ Only (bm :: v.ownBlock.toList) w wr) (fun u _ => n - (intOf u).toNat)
  case atStart => exact ⟨i0, L, Nat.le_refl _, .inl rfl, rfl, H.out, List.Perm.refl _, HD.out, fun _ _ => rfl, Only.refl _ _⟩
  case round =>
    obtain ⟨k, L', hik, hkn, rfl, hP, hperm, hD, hsame, hO⟩ := hrel
    have hlen := hperm.length_eq
    have HP := Lib.hid hP
    have HPM := Lib.hid hperm
    have HD := Lib.hid hD
    have HS := Lib.hid hsame
    have HO := Lib.hid hO
    clear hP hperm hD hsame hO
    by_cases h1 : 2 * k + 1 < n
    · obtain ⟨x, hx⟩ : ∃ x, L'[k]? = some x := ⟨_, List.getElem?_eq_getElem (by omega)⟩
      have HX := Lib.hid hx
      clear hx
      obtain ⟨y1, hy1⟩ : ∃ y, L'[2 * k + 1]? = some y := ⟨_, List.getElem?_eq_getElem (by omega)⟩
      have HY1 := Lib.hid hy1
      clear hy1
      have t1 : decide ((n : Int) ≤ 2 * (k : Int) + 1) = false := decide_eq_false (by omega)
      have t2 : decide (2 * (k : Int) + 1 < 0) = false := decide_eq_false (by omega)
      by_cases h2 : 2 * k + 2 < n
      · have t3 : decide (2 * (k : Int) + 1 + 1 < n) = true := decide_eq_true (by omega)
        obtain ⟨y2, hy2⟩ : ∃ y, L'[2 * k + 2]? = some y := ⟨_, List.getElem?_eq_getElem (by omega)⟩
        have HY2 := Lib.hid hy2
        clear hy2
        go_wp2_with fail
        refine (pileLess_atI HP.out HY2.out HY1.out (by omega) (by omega)).mono ?_
        rintro e w2 ⟨rfl, hO⟩
        have HP2 := Lib.hid (HP.out.only hO (by simp) (by simp) (by simp))
        have HO2 := Lib.hid (HO.out.trans (hO.mono (by simp)))
        clear hO
        by_cases h21 : y2.lt y1
        · have h21' : decide (y2.lt y1) = true := decide_eq_true h21
          rw [h21']
          have hmin : ∀ c q, c < n → 0 < c → (c - 1) / 2 = k → L'[c]? = some q → ¬ q.lt y2 := fun c q g1 g2 g3 g4 => by
            rcases (show c = 2 * k + 1 ∨ c = 2 * k + 2 by omega) with e | e
            · rw [e, HY1.out] at g4; cases g4; exact Tm.lt_asymm h21
            · rw [e, HY2.out] at g4; cases g4; exact Tm.lt_irrefl _
          have HMIN := Lib.hid hmin
          clear hmin
          go_wp2_with fail
          refine (pileLess_atI HP2.out HY2.out HX.out (by omega) rfl).mono ?_
          rintro e w3 ⟨rfl, hO⟩
          have HP3 := Lib.hid (HP2.out.only hO (by simp) (by simp) (by simp))
          have HO3 := Lib.hid (HO2.out.trans (hO.mono (by simp)))
          clear hO
          by_cases hlt : y2.lt x
          · have hlt' : decide (y2.lt x) = true := decide_eq_true hlt
            rw [hlt']
            go_wp2_with fail
            refine (pileSwap_atI HP3.out HX.out HY2.out rfl (by omega)).mono ?_
            rintro e w4 ⟨rfl, hP4, hO⟩
            have HP4 := Lib.hid hP4
            have HO4 := Lib.hid (HO3.out.trans hO)
            clear hP4 hO
            go_wp2_with fail
            have hst := HD.out.step hik (by omega) (by omega) (by omega) HX.out HY2.out hlt HMIN.out
            exact ⟨⟨2 * k + 2, sw L' k (2 * k + 2) x y2, by omega, .inr (by omega), by go_num, HP4.out, (sw_perm HX.out HY2.out).trans HPM.out, hst, fun i hi => by rw [sw_get HX.out HY2.out, if_neg (by omega), if_neg (by omega)]; exact HS.out i hi, HO4.out⟩, by simp [intOf]; omega⟩
          · have hlt' : decide (y2.lt x) = false := decide_eq_false hlt
            rw [hlt']
            have hkids : ∀ c a b, c < n → 0 < c → (c - 1) / 2 = k → L'[k]? = some a → L'[c]? = some b → ¬ b.lt a := fun c a b h1 h2 h3 h4 h5 => by
              rw [HX.out] at h4; cases h4
              exact Tm.nlt_trans hlt (HMIN.out c b h1 h2 h3 h5)
            have HK := Lib.hid hkids
            clear hkids
            go_wp2_with fail
            go_ret
            by_cases e : k = i0
            · refine ⟨_, L', rfl, HP3.out, HPM.out, fun hh => ?_, fun _ => ?_, HS.out, HO3.out⟩
              · simp at hh; omega
              · subst e; exact HD.out.stayed HK.out
            · refine ⟨_, L', rfl, HP3.out, HPM.out, fun _ => HD.out.moved e HK.out, fun hh => ?_, HS.out, HO3.out⟩
              simp at hh; omega
        · have h21' : decide (y2.lt y1) = false := decide_eq_false h21
          rw [h21']
          have hmin : ∀ c q, c < n → 0 < c → (c - 1) / 2 = k → L'[c]? = some q → ¬ q.lt y1 := fun c q g1 g2 g3 g4 => by
            rcases (show c = 2 * k + 1 ∨ c = 2 * k + 2 by omega) with e | e
            · rw [e, HY1.out] at g4; cases g4; exact Tm.lt_irrefl _
            · rw [e, HY2.out] at g4; cases g4; exact h21
          have HMIN := Lib.hid hmin
          clear hmin
          go_wp2_with fail
          refine (pileLess_atI HP2.out HY1.out HX.out (by omega) rfl).mono ?_
          rintro e w3 ⟨rfl, hO⟩
          have HP3 := Lib.hid (HP2.out.only hO (by simp) (by simp) (by simp))
          have HO3 := Lib.hid (HO2.out.trans (hO.mono (by simp)))
          clear hO
          by_cases hlt : y1.lt x
          · have hlt' : decide (y1.lt x) = true := decide_eq_true hlt
            rw [hlt']
            go_wp2_with fail
            refine (pileSwap_atI HP3.out HX.out HY1.out rfl (by omega)).mono ?_
            rintro e w4 ⟨rfl, hP4, hO⟩
            have HP4 := Lib.hid hP4
            have HO4 := Lib.hid (HO3.out.trans hO)
            clear hP4 hO
            go_wp2_with fail
            have hst := HD.out.step hik (by omega) (by omega) (by omega) HX.out HY1.out hlt HMIN.out
            exact ⟨⟨2 * k + 1, sw L' k (2 * k + 1) x y1, by omega, .inr (by omega), by go_num, HP4.out, (sw_perm HX.out HY1.out).trans HPM.out, hst, fun i hi => by rw [sw_get HX.out HY1.out, if_neg (by omega), if_neg (by omega)]; exact HS.out i hi, HO4.out⟩, by simp [intOf]; omega⟩
          · have hlt' : decide (y1.lt x) = false := decide_eq_false hlt
            rw [hlt']
            have hkids : ∀ c a b, c < n → 0 < c → (c - 1) / 2 = k → L'[k]? = some a → L'[c]? = some b → ¬ b.lt a := fun c a b h1 h2 h3 h4 h5 => by
              rw [HX.out] at h4; cases h4
              exact Tm.nlt_trans hlt (HMIN.out c b h1 h2 h3 h5)
            have HK := Lib.hid hkids
            clear hkids
            go_wp2_with fail
            go_ret
            by_cases e : k = i0
            · refine ⟨_, L', rfl, HP3.out, HPM.out, fun hh => ?_, fun _ => ?_, HS.out, HO3.out⟩
              · simp at hh; omega
              · subst e; exact HD.out.stayed HK.out
            · refine ⟨_, L', rfl, HP3.out, HPM.out, fun _ => HD.out.moved e HK.out, fun hh => ?_, HS.out, HO3.out⟩
              simp at hh; omega
      · have t3 : decide (2 * (k : Int) + 1 + 1 < n) = false := decide_eq_false (by omega)
        have hmin : ∀ c q, c < n → 0 < c → (c - 1) / 2 = k → L'[c]? = some q → ¬ q.lt y1 := fun c q g1 g2 g3 g4 => by
          have e : c = 2 * k + 1 := by omega
          rw [e, HY1.out] at g4; cases g4
          exact Tm.lt_irrefl _
        have HMIN := Lib.hid hmin
        clear hmin
        go_wp2_with fail
        refine (pileLess_atI HP.out HY1.out HX.out (by omega) rfl).mono ?_
        rintro e w3 ⟨rfl, hO⟩
        have HP3 := Lib.hid (HP.out.only hO (by simp) (by simp) (by simp))
        have HO3 := Lib.hid (HO.out.trans (hO.mono (by simp)))
        clear hO
        by_cases hlt : y1.lt x
        · have hlt' : decide (y1.lt x) = true := decide_eq_true hlt
          rw [hlt']
          go_wp2_with fail
          refine (pileSwap_atI HP3.out HX.out HY1.out rfl (by omega)).mono ?_
          rintro e w4 ⟨rfl, hP4, hO⟩
          have HP4 := Lib.hid hP4
          have HO4 := Lib.hid (HO3.out.trans hO)
          clear hP4 hO
          go_wp2_with fail
          have hst := HD.out.step hik (by omega) (by omega) (by omega) HX.out HY1.out hlt HMIN.out
          exact ⟨⟨2 * k + 1, sw L' k (2 * k + 1) x y1, by omega, .inr (by omega), by go_num, HP4.out, (sw_perm HX.out HY1.out).trans HPM.out, hst, fun i hi => by rw [sw_get HX.out HY1.out, if_neg (by omega), if_neg (by omega)]; exact HS.out i hi, HO4.out⟩, by simp [intOf]; omega⟩
        · have hlt' : decide (y1.lt x) = false := decide_eq_false hlt
          rw [hlt']
          have hkids : ∀ c a b, c < n → 0 < c → (c - 1) / 2 = k → L'[k]? = some a → L'[c]? = some b → ¬ b.lt a := fun c a b h1 h2 h3 h4 h5 => by
            rw [HX.out] at h4; cases h4
            exact Tm.nlt_trans hlt (HMIN.out c b h1 h2 h3 h5)
          have HK := Lib.hid hkids
          clear hkids
          go_wp2_with fail
          go_ret
          by_cases e : k = i0
          · refine ⟨_, L', rfl, HP3.out, HPM.out, fun hh => ?_, fun _ => ?_, HS.out, HO3.out⟩
            · simp at hh; omega
            · subst e; exact HD.out.stayed HK.out
          · refine ⟨_, L', rfl, HP3.out, HPM.out, fun _ => HD.out.moved e HK.out, fun hh => ?_, HS.out, HO3.out⟩
            simp at hh; omega
    · have t1 : decide ((n : Int) ≤ 2 * (k : Int) + 1) = true := decide_eq_true (by omega)
      have hkids : ∀ c a b, c < n → 0 < c → (c - 1) / 2 = k → L'[k]? = some a → L'[c]? = some b → ¬ b.lt a := fun c a b h1 h2 h3 h4 h5 => by omega
      have HK := Lib.hid hkids
      clear hkids
      go_wp2_with fail
      go_ret
      by_cases e : k = i0
      · refine ⟨_, L', rfl, HP.out, HPM.out, fun hh => ?_, fun _ => ?_, HS.out, HO.out⟩
        · simp at hh; omega
        · subst e; exact HD.out.stayed HK.out
      · refine ⟨_, L', rfl, HP.out, HPM.out, fun _ => HD.out.moved e HK.out, fun hh => ?_, HS.out, HO.out⟩
        simp at hh; omega
end Go.Proofs.Ytllfehahjkbhiaa
