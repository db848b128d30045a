/- SectorKept: a crash that keeps all of up to 64 loose sectors changes nothing; one that keeps none, and tears none, leaves what was flushed. -/
import Derived.Test.YthbccnpnkfcmfaaLawSectorSure
namespace Go.Proofs.Ythbccnpnkfcmfaa
open Go.RowKit Go.Lib
set_option linter.unusedSimpArgs false
set_option linter.unusedVariables false
theorem keeps_all : ∀ k : Nat, k < 64 → keeps 18446744073709551615 k = true := by
  have h : ∀ k : Fin 64, keeps 18446744073709551615 k.val = true := by decide +kernel
  exact fun k hk => h ⟨k, hk⟩
set_option maxHeartbeats 8000000 in
set_option maxRecDepth 100000 in
theorem sectorKept_at (w : World) (n : Int) (a : Option Addr) (cap : Nat) (l : List Deed9) (a' : Option Addr) (cap' : Nat) (m : List Deed9) (hn : (Lit.int .i64 n).wf = true) (hb : l.length ≤ maxLen) (hl : RowsAt Deed9.cells 5 w a l) (hok : ∀ d ∈ l, d.Ok)
    (hb' : m.length ≤ maxLen) (hl' : RowsAt Deed9.cells 5 w a' m) (hok' : ∀ d ∈ m, d.Ok) :
    Calls Try.prog 4 #[.int .i64 n, .slice a l.length cap, .slice a' m.length cap'] w fun e w' => e = .returned (.bool true) ∧ Only [] w w' := by
  unfold maxLen at hb hb'
  have HL := Lib.hid hl
  have HOK := Lib.hid hok
  have HM := Lib.hid hl'
  have HOKM := Lib.hid hok'
  clear hn hl hok hl' hok'
  go_enter Try.func4, Try.ntmps4
  go_wp2_with fail
  refine (few_at n HL.out hb HOK.out).mono ?_
  rintro e w1 ⟨rfl, rfl⟩
  cases hfew : few9 n l with
  | false =>
    have hI : few9I n l = 0 := by unfold few9I; rw [hfew]; rfl
    rw [hI]
    clear hI hfew
    go_wp2_with fail
    refine (awake_at _).mono ?_
    rintro e w2 ⟨rfl, hO⟩
    have HO := Lib.hid hO
    clear hO
    go_wp2_with fail
    go_ret
    exact ⟨rfl, HO.out⟩
  | true =>
    have hI : few9I n l = 1 := by unfold few9I; rw [hfew]; rfl
    rw [hI]
    clear hI hfew
    go_wp2_with fail
    refine (few_at n HM.out hb' HOKM.out).mono ?_
    rintro e w1 ⟨rfl, rfl⟩
    cases hfew : few9 n m with
    | false =>
      have hI : few9I n m = 0 := by unfold few9I; rw [hfew]; rfl
      rw [hI]
      clear hI hfew
      go_wp2_with fail
      refine (awake_at _).mono ?_
      rintro e w2 ⟨rfl, hO⟩
      have HO := Lib.hid hO
      clear hO
      go_wp2_with fail
      go_ret
      exact ⟨rfl, HO.out⟩
    | true =>
      have hI : few9I n m = 1 := by unfold few9I; rw [hfew]; rfl
      rw [hI]
      clear hI hfew
      go_wp2_with fail
      refine (new_at _ _).mono ?_
      rintro e w1 ⟨d, bn, bm, rfl, hD1, hO1, hd, hbn, hbm⟩
      have hx1 := lt_of_heap hD1.hd
      have hx2 := lt_of_heap hD1.hn
      obtain ⟨_, _, _, hx3, _, _⟩ := hD1.hm
      replace hx3 := lt_of_heap hx3
      have HD1 := Lib.hid hD1
      have HO1 := Lib.hid hO1
      clear hD1 hO1
      go_wp2_with fail
      refine (new_at _ _).mono ?_
      rintro e w2 ⟨d2, bn2, bm2, rfl, hD2, hO2, hd2, hbn2, hbm2⟩
      have HA2 := Lib.hid (HD1.out.only hO2 (by simp) (by simp) (by simp))
      have HB2 := Lib.hid hD2
      have hs1 := hO2.size
      have HO2 := Lib.hid (HO1.out.trans hO2)
      clear hD2 hO2 HD1 HO1
      have hAp : d < d2 ∧ d < bn2 ∧ d < bm2 ∧ bn < d2 ∧ bn < bn2 ∧ bn < bm2 ∧ bm < d2 ∧ bm < bn2 ∧ bm < bm2 := by omega
      have hB0 : w.heap.size ≤ d2 ∧ w.heap.size ≤ bn2 ∧ w.heap.size ≤ bm2 := by omega
      clear hx1 hx2 hx3 hd2 hbn2 hbm2 hs1
      go_wp2_with fail
      go_loopw [9] (fun v wr => ∃ k : Nat, k ≤ l.length ∧ v = .int .i64 k ∧ DevAt wr d bn bm (wr9 (fun _ => true) (Dev.new n) (l.take k)) ∧ DevAt wr d2 bn2 bm2 (wr9 (fun _ => true) (Dev.new n) (l.take k)) ∧ Only [] w wr) (fun v _ => l.length - (intOf v).toNat)
      case atStart => exact ⟨0, by omega, rfl, HA2.out, HB2.out, HO2.out⟩
      case round =>
        obtain ⟨k, hk, rfl, hDA, hDB, hO⟩ := hrel
        have HDA := Lib.hid hDA
        have HDB := Lib.hid hDB
        have HO := Lib.hid hO
        clear hDA hDB hO
        by_cases hlt : k < l.length
        · obtain ⟨x, hx⟩ : ∃ x, l[k]? = some x := ⟨l[k], List.getElem?_eq_getElem _⟩
          obtain ⟨b, o, rfl, _, c1, _, c3, _⟩ := deed9_at (HL.out.keep HO.out) hx
          have hs := (HOK.out x (List.mem_of_getElem? hx)).text
          have hbw : b < w.heap.size := by
            obtain ⟨b', o', e, _, _, _, _⟩ := deed9_at HL.out hx
            cases e
            exact World.block_lt_of_cell? _ _ ‹_›
          have hstep := wr9_succ (fun _ => true) (Dev.new n) hx
          have hlt' : (k : Int) < l.length := by omega
          clear hx
          generalize wr9 (fun _ => true) (Dev.new n) (l.take k) = D at *
          simp only [if_true] at hstep
          have HS := Lib.hid hstep
          clear hstep
          go_wp2_with fail
          go_region_held3 (fun w' => w'.cell? ⟨b, o + k * 5 + 1, none⟩ = some (.int .i64 x.at_) ∧ w'.cell? ⟨b, o + k * 5 + 3, none⟩ = some (.string x.text)) (first | exact ⟨c1, c3⟩ | exact ⟨g1, g3⟩)
            ((first | (go_at_call 10; refine (write_at HDA.out.drew _ _ hs).mono ?_; rintro e w3 ⟨rfl, hDA3, hO3⟩; have g1 := hO3.cell c1 (by simp; omega); have g3 := hO3.cell c3 (by simp; omega))))
          have HDB3 := Lib.hid (HDB.out.drew.only hO3 (by simp; omega) (by simp; omega) (by simp; omega))
          have HDA3 := Lib.hid hDA3
          have HO3 := Lib.hid (HO.out.drew.call hO3 (by simp; omega))
          clear hDA3 hO3 c1 c3
          go_wp2_with fail
          go_region_held3 (fun w' => w'.cell? ⟨b, o + k * 5 + 1, none⟩ = some (.int .i64 x.at_) ∧ w'.cell? ⟨b, o + k * 5 + 3, none⟩ = some (.string x.text)) (first | exact ⟨g1, g3⟩ | exact ⟨q1, q3⟩)
            ((first | (go_at_call 10; refine (write_at HDB3.out.drew _ _ hs).mono ?_; rintro e w4 ⟨rfl, hDB4, hO4⟩; have q1 := hO4.cell g1 (by simp; omega); have q3 := hO4.cell g3 (by simp; omega))))
          have HDA4 := Lib.hid (HDA3.out.drew.only hO4 (by simp; omega) (by simp; omega) (by simp; omega))
          go_wp2_with fail
          exact ⟨⟨k + 1, by omega, by go_num, by rw [HS.out]; exact HDA4.out, by rw [HS.out]; exact hDB4, HO3.out.drew.call hO4 (by simp; omega)⟩, by simp [intOf]; omega⟩
        · have hke : k = l.length := by omega
          subst hke
          rw [List.take_length] at HDA HDB
          have hlost : (wr9 (fun _ => true) (Dev.new n) l).lost = false := wr9_lost _ _ _
          generalize wr9 (fun _ => true) (Dev.new n) l = D at *
          have hlt' : ¬ (l.length : Int) < l.length := by omega
          clear HA2 HB2 HO2
          go_wp2_with fail
          refine (flush_at HDA.out).mono ?_
          rintro e w3 ⟨rfl, hD, hO⟩
          have HA3 := Lib.hid hD
          have HB3 := Lib.hid (HDB.out.only hO (by simp; omega) (by simp; omega) (by simp; omega))
          have HO3 := Lib.hid (HO.out.call hO (by simp; omega))
          clear hD hO
          go_wp2_with fail
          refine (flush_at HB3.out).mono ?_
          rintro e w4 ⟨rfl, hD, hO⟩
          have HB4 := Lib.hid hD
          have HA4 := Lib.hid (HA3.out.only hO (by simp; omega) (by simp; omega) (by simp; omega))
          have HO4 := Lib.hid (HO3.out.call hO (by simp; omega))
          clear hD hO
          have HOv := Lib.hid (Dev.Over.flush HDA.out.ok hlost)
          have hpos := HDA.out.ok.pos
          have hposF : 1 ≤ D.flush.now.length := hpos
          have hlF : D.flush.lost = false := hlost
          have hrd := Dev.read_all hlF hposF
          have hFn : cat D.flush.now = cat D.now := rfl
          rw [hFn] at hrd
          have HRd := Lib.hid hrd
          clear hlost hlF hrd hFn hposF HA3 HB3 HDA HDB HO HO3
          generalize D.now = B at *
          generalize D.flush = F at *
          clear D
          go_wp2_with fail
          refine (sectors_at HB4.out).mono ?_
          rintro e w5 ⟨rfl, rfl⟩
          go_wp2_with fail
          refine (read_at HB4.out _ _).mono ?_
          rintro e w5 ⟨rfl, hO⟩
          rw [HRd.out]
          have HA5 := Lib.hid (HA4.out.only hO (by simp) (by simp) (by simp))
          have HB5 := Lib.hid (HB4.out.only hO (by simp) (by simp) (by simp))
          have HO5 := Lib.hid (HO4.out.trans hO)
          clear hO HA4 HB4 HO4 hlt hlt' hk hpos
          go_wp2_with fail
          go_loopw [12] (fun v wr => ∃ k : Nat, k ≤ m.length ∧ v = .int .i64 k ∧ DevAt wr d bn bm (wr9 (fun _ => true) F (m.take k)) ∧ DevAt wr d2 bn2 bm2 (wr9 (fun _ => true) F (m.take k)) ∧ Only [] w wr) (fun v _ => m.length - (intOf v).toNat)
          case atStart => exact ⟨0, by omega, rfl, HA5.out, HB5.out, HO5.out⟩
          case round =>
            obtain ⟨k, hk, rfl, hDA, hDB, hO⟩ := hrel
            have HDA := Lib.hid hDA
            have HDB := Lib.hid hDB
            have HO := Lib.hid hO
            clear hDA hDB hO
            by_cases hlt : k < m.length
            · obtain ⟨x, hx⟩ : ∃ x, m[k]? = some x := ⟨m[k], List.getElem?_eq_getElem _⟩
              obtain ⟨b, o, rfl, _, c1, _, c3, _⟩ := deed9_at (HM.out.keep HO.out) hx
              have hs := (HOKM.out x (List.mem_of_getElem? hx)).text
              have hbw : b < w.heap.size := by
                obtain ⟨b', o', e, _, _, _, _⟩ := deed9_at HM.out hx
                cases e
                exact World.block_lt_of_cell? _ _ ‹_›
              have hstep := wr9_succ (fun _ => true) F hx
              have hlt' : (k : Int) < m.length := by omega
              clear hx
              generalize wr9 (fun _ => true) F (m.take k) = D at *
              simp only [if_true] at hstep
              have HS := Lib.hid hstep
              clear hstep
              go_wp2_with fail
              go_region_held3 (fun w' => w'.cell? ⟨b, o + k * 5 + 1, none⟩ = some (.int .i64 x.at_) ∧ w'.cell? ⟨b, o + k * 5 + 3, none⟩ = some (.string x.text)) (first | exact ⟨c1, c3⟩ | exact ⟨g1, g3⟩)
                ((first | (go_at_call 10; refine (write_at HDA.out.drew _ _ hs).mono ?_; rintro e w3 ⟨rfl, hDA3, hO3⟩; have g1 := hO3.cell c1 (by simp; omega); have g3 := hO3.cell c3 (by simp; omega))))
              have HDB3 := Lib.hid (HDB.out.drew.only hO3 (by simp; omega) (by simp; omega) (by simp; omega))
              have HDA3 := Lib.hid hDA3
              have HO3 := Lib.hid (HO.out.drew.call hO3 (by simp; omega))
              clear hDA3 hO3 c1 c3
              go_wp2_with fail
              go_region_held3 (fun w' => w'.cell? ⟨b, o + k * 5 + 1, none⟩ = some (.int .i64 x.at_) ∧ w'.cell? ⟨b, o + k * 5 + 3, none⟩ = some (.string x.text)) (first | exact ⟨g1, g3⟩ | exact ⟨q1, q3⟩)
                ((first | (go_at_call 10; refine (write_at HDB3.out.drew _ _ hs).mono ?_; rintro e w4 ⟨rfl, hDB4, hO4⟩; have q1 := hO4.cell g1 (by simp; omega); have q3 := hO4.cell g3 (by simp; omega))))
              have HDA4 := Lib.hid (HDA3.out.drew.only hO4 (by simp; omega) (by simp; omega) (by simp; omega))
              go_wp2_with fail
              exact ⟨⟨k + 1, by omega, by go_num, by rw [HS.out]; exact HDA4.out, by rw [HS.out]; exact hDB4, HO3.out.drew.call hO4 (by simp; omega)⟩, by simp [intOf]; omega⟩
            · have hke : k = m.length := by omega
              subst hke
              rw [List.take_length] at HDA HDB
              have hOv := wr9_over (fun _ => true) m HOv.out
              generalize wr9 (fun _ => true) F m = D at *
              have hlt' : ¬ (m.length : Int) < m.length := by omega
              have hDl := hOv.lost
              have hDp : 1 ≤ D.now.length := HDA.out.ok.pos
              have hrd := Dev.read_all hDl hDp
              have hbk := hOv.back
              have hrb := Dev.read_all ((Dev.crash_lost 0 0 D).trans hDl) (by rw [Dev.crash_len]; exact hDp)
              rw [hbk] at hrb
              have hra := Dev.read_all ((Dev.crash_lost 18446744073709551615 0 D).trans hDl) (by rw [Dev.crash_len]; exact hDp)
              have hkp := Dev.crash_keeps 18446744073709551615 0 keeps_all D
              have HR := Lib.hid hrd
              have HRB := Lib.hid hrb
              have HRA := Lib.hid hra
              have HKP := Lib.hid hkp
              have HBK := Lib.hid hbk
              clear hOv hDl hDp hrd hrb hra hkp hbk HA5 HB5 HO5
              go_wp2_with fail
              refine (sectors_at HDA.out).mono ?_
              rintro e w6 ⟨rfl, rfl⟩
              go_wp2_with fail
              refine (read_at HDA.out _ _).mono ?_
              rintro e w6 ⟨rfl, hO⟩
              rw [HR.out]
              have HA6 := Lib.hid (HDA.out.only hO (by simp) (by simp) (by simp))
              have HB6 := Lib.hid (HDB.out.only hO (by simp) (by simp) (by simp))
              have HO6 := Lib.hid (HO.out.trans hO)
              clear hO HDA HDB HO
              go_wp2_with fail
              refine (loose_at HA6.out).mono ?_
              rintro e w7 ⟨v, rfl, hv, hO⟩
              obtain ⟨la, lc, rfl, _, _⟩ := ints_own hv
              have HA7 := Lib.hid (HA6.out.only hO (by simp) (by simp) (by simp))
              have HB7 := Lib.hid (HB6.out.only hO (by simp) (by simp) (by simp))
              have HO7 := Lib.hid (HO6.out.trans hO)
              clear hO hv HA6 HB6 HO6
              go_wp2_with fail
              refine (crash_at HA7.out _ _ (by decide) (by decide)).mono ?_
              rintro e w8 ⟨rfl, hD, hO⟩
              have HA8 := Lib.hid hD
              have HB8 := Lib.hid (HB7.out.only hO (by simp; omega) (by simp; omega) (by simp; omega))
              have HO8 := Lib.hid (HO7.out.call hO (by simp; omega))
              clear hD hO HA7 HB7 HO7
              go_wp2_with fail
              refine (crash_at HB8.out _ _ (by decide) (by decide)).mono ?_
              rintro e w9 ⟨rfl, hD, hO⟩
              have HB9 := Lib.hid hD
              have HA9 := Lib.hid (HA8.out.only hO (by simp; omega) (by simp; omega) (by simp; omega))
              have HO9 := Lib.hid (HO8.out.call hO (by simp; omega))
              clear hD hO HA8 HB8 HO8
              go_wp2_with fail
              refine (sectors_at HA9.out).mono ?_
              rintro e w10 ⟨rfl, rfl⟩
              go_wp2_with fail
              refine (read_at HA9.out _ _).mono ?_
              rintro e w10 ⟨rfl, hO⟩
              rw [HRA.out]
              have HB10 := Lib.hid (HB9.out.only hO (by simp) (by simp) (by simp))
              have HO10 := Lib.hid (HO9.out.trans hO)
              clear hO HA9 HB9 HO9
              go_wp2_with fail
              refine (sectors_at HB10.out).mono ?_
              rintro e w11 ⟨rfl, rfl⟩
              go_wp2_with fail
              refine (read_at HB10.out _ _).mono ?_
              rintro e w11 ⟨rfl, hO⟩
              rw [HBK.out, HRB.out]
              have HO11 := Lib.hid (HO10.out.trans hO)
              clear hO HB10 HO10
              by_cases hmany : 64 < D.loose.length
              · have hmany' : decide (64 < (D.loose.length : Int)) = true := decide_eq_true (by omega)
                go_wp2_with fail
                refine (awake_at _).mono ?_
                rintro e w12 ⟨rfl, hO⟩
                have HO12 := Lib.hid (HO11.out.trans hO)
                clear hO
                go_wp2_with fail
                go_ret
                exact ⟨rfl, HO12.out⟩
              · have hmany' : decide (64 < (D.loose.length : Int)) = false := decide_eq_false (by omega)
                have e2 : (D.crash 18446744073709551615 0).now = D.now := by rw [HKP.out (by omega)]; rfl
                rw [e2]
                go_wp2_with fail
                refine (awake_at _).mono ?_
                rintro e w12 ⟨rfl, hO⟩
                have HO12 := Lib.hid (HO11.out.trans hO)
                clear hO
                go_wp2_with fail
                go_ret
                exact ⟨rfl, HO12.out⟩
end Go.Proofs.Ythbccnpnkfcmfaa
