/- TimersPlays: anything done to timers. -/
import Derived.Test.YtimhccpfgpiecaaLaw7
import Derived.Test.YtimhccpfgpiecaaDeed7
import Derived.Test.YtimhccpfgpiecaaRef7b
import Derived.Test.YtimhccpfgpiecaaTimAll
import Derived.Test.YtimhccpfgpiecaaReg
import Derived.Deep.DeepCutAuto
namespace Go.Proofs.Ytimhccpfgpiecaa
open Go.RowKit Go.Lib
set_option linter.unusedSimpArgs false
set_option linter.unusedVariables false
theorem TmsAt.weak {w : World} {F : List Nat} {a : Option Addr} {S : List Tm} (h : TmsAt w F a S) : TmsAt w [] a S := fun i x hx => by
  obtain ⟨b, o, e, _, c⟩ := h i x hx
  exact ⟨b, o, e, by simp, c⟩
theorem deed7_at {w : World} {a : Option Addr} {l : List Deed7} (h : RowsAt Deed7.cells 3 w a l) {i : Nat} {x : Deed7} (hi : l[i]? = some x) :
    ∃ b o, a = some ⟨b, o, none⟩ ∧ w.cell? ⟨b, o + i * 3, none⟩ = some (.int .i64 x.kind) ∧ w.cell? ⟨b, o + i * 3 + 1, none⟩ = some (.int .i64 x.id) ∧ w.cell? ⟨b, o + i * 3 + 2, none⟩ = some (.int .i64 x.at_) := by
  obtain ⟨b, o, e, hc⟩ := h i x hi
  exact ⟨b, o, e, hc 0 _ rfl, hc 1 _ rfl, hc 2 _ rfl⟩
theorem due_few {S : List Tm} (h : S.length ≤ 64) (now : Int) : ((tdue S now).map Tm.id).length ≤ 9223372036854775807 := by
  have h1 := (List.filter_sublist (l := S) (p := fun x => decide (x.at_ ≤ now))).length_le
  unfold tdue
  rw [List.length_map]
  omega
theorem thas_len (S : List Tm) (id : Int) : decide ((tout id S).length < S.length) = thas S id := by
  unfold thas
  by_cases h : ∃ x ∈ S, x.id = id
  · obtain ⟨x, hx, e⟩ := h
    rw [List.any_eq_true.2 ⟨x, hx, by simpa using e⟩, decide_eq_true_eq]
    unfold tout
    rw [← List.countP_eq_length_filter]
    rcases Nat.lt_or_ge (S.countP fun x => x.id != id) S.length with h | h
    · exact h
    · have h1 := List.countP_eq_length.1 (Nat.le_antisymm List.countP_le_length h) x hx
      simp [e] at h1
  · have hne : ∀ x ∈ S, x.id ≠ id := fun x hx e => h ⟨x, hx, e⟩
    rw [tout_none hne, List.any_eq_false.2 (fun x hx => by simpa using hne x hx)]
    simp
set_option maxHeartbeats 4000000 in
set_option maxRecDepth 100000 in
theorem timersPlays_at (w : World) (a : Option Addr) (cap : Nat) (l : List Deed7) (hb : l.length ≤ maxLen) (hl : RowsAt Deed7.cells 3 w a l) (hok : ∀ d ∈ l, d.Ok) :
    Calls Try.prog 3 #[.slice a l.length cap] w fun e w' => e = .returned (.bool true) ∧ Only [] w w' := by
  have HL := Lib.hid hl
  unfold maxLen at hb
  clear hl hok
  by_cases hfew : 150 < l.length
  · have hf1 : decide (150 < (l.length : Int)) = true := decide_eq_true (by omega)
    go_enter Try.func3, Try.ntmps3
    go_wp2_with fail
    refine (awake_at _).mono ?_
    rintro e w1 ⟨rfl, hO⟩
    have HO := Lib.hid hO
    clear hO
    go_wp2_with fail
    go_ret
    exact ⟨rfl, HO.out⟩
  · have hf1 : decide (150 < (l.length : Int)) = false := decide_eq_false (by omega)
    go_enter Try.func3, Try.ntmps3
    go_wp2_with fail
    refine (timNew_at _).mono ?_
    rintro e w1 ⟨t, F1, rfl, hT1, hO1, hF1⟩
    have HT1 := Lib.hid hT1
    have HO1 := Lib.hid hO1
    have HF1 := Lib.hid hF1
    clear hT1 hO1 hF1
    go_wp2_with fail
    go_loopw [4, 5] (fun x v wr => ∃ (k : Nat) (S : List Tm) (F : List Nat) (a' : Option Addr) (cap' : Nat), k ≤ l.length ∧ v = .int .i64 k ∧ x = .slice a' S.length cap' ∧ TimAt wr t F S ∧ TmsAt wr F a' S ∧ Only [] w wr ∧ ∀ b ∈ F, w.heap.size ≤ b) (fun _ v _ => l.length - (intOf v).toNat)
    case atStart => exact ⟨0, [], F1, none, 0, Nat.zero_le _, rfl, rfl, HT1.out, TmsAt.nil _ _ _, HO1.out, HF1.out⟩
    case round =>
      obtain ⟨k, S, F, a', cap', hk, rfl, rfl, hT, hX, hO, hF⟩ := hrel
      have HT := Lib.hid hT
      have HX := Lib.hid hX
      have HO := Lib.hid hO
      have HF := Lib.hid hF
      clear hT hX hO hF
      by_cases hlt : k < l.length
      · obtain ⟨y, hy⟩ : ∃ y, l[k]? = some y := ⟨_, List.getElem?_eq_getElem hlt⟩
        obtain ⟨b, o, rfl, c0, c1, c2⟩ := deed7_at (HL.out.keep HO.out) hy
        have hlt' : (k : Int) < l.length := by omega
        clear hy
        go_upto_region 10 with (fail)
        have hOA : Only [] wr (wr.alloc (.cells #[.int .i64 y.kind, .int .i64 y.id, .int .i64 y.at_] 28)) := (Only.refl [] wr).alloc _
        have hdz : (wr.alloc (.cells #[.int .i64 y.kind, .int .i64 y.id, .int .i64 y.at_] 28)).heap[wr.heap.size]? = some (.cells #[.int .i64 y.kind, .int .i64 y.id, .int .i64 y.at_] 28 (0, 0)) := heap_alloc_at rfl
        have hnF : wr.heap.size ∉ F := fun hm => by have := HT.out.lt _ hm; omega
        have HTA := Lib.hid (HT.out.only hOA (by simp))
        have HXA := Lib.hid (HX.out.keep hOA)
        have HOA := Lib.hid (HO.out.trans hOA)
        have HDZ := Lib.hid hdz
        have HNF := Lib.hid hnF
        generalize hN : wr.heap.size = N at *
        generalize hW : wr.alloc (.cells #[.int .i64 y.kind, .int .i64 y.id, .int .i64 y.at_] 28) = W at *
        clear hOA hdz hnF c0 c1 c2 hW hN
        have d0 := cell_at (o := 0) HDZ.out rfl
        have d1 := cell_at (o := 1) HDZ.out rfl
        have d2 := cell_at (o := 2) HDZ.out rfl
        iterate 14 (first | (guard_target =~ Code.wp _ (Code.block _ _) _ _ _; skip) | go_step | go_values | go_back)
        go_cut [4, 6] (fun x ok wx => ∃ (S' : List Tm) (F' : List Nat) (a2 : Option Addr) (cap2 : Nat), ok = .bool true ∧ x = .slice a2 S'.length cap2 ∧ TimAt wx t F' S' ∧ TmsAt wx F' a2 S' ∧ Only [] w wx ∧ ∀ b ∈ F', w.heap.size ≤ b)
        case first =>
          by_cases k0 : y.kind = 0
          · have e0 : (y.kind == 0) = true := by simp [k0]
            clear k0
            go_wp2_with fail
            refine (set7_at HXA.out.weak HTA.out.ok.few _ _).mono ?_
            rintro e w2 ⟨v, rfl, hv, hO2⟩
            obtain ⟨a2, cap2, rfl, hX2⟩ : ∃ a2 cap2, v = .slice a2 (tset S y.id y.at_).1.length cap2 ∧ TmsAt w2 F a2 (tset S y.id y.at_).1 := by
              rcases hv with ⟨h1, h2⟩ | hv
              · rw [h1]; exact ⟨_, _, h2, HXA.out.keep hO2⟩
              · obtain ⟨a2, cap2, h1, h2⟩ := tms_own hv HTA.out.lt
                exact ⟨a2, cap2, h1, h2⟩
            have hT2 := HTA.out.only hO2 (by simp)
            have hd2 := hO2.keep HDZ.out (by simp)
            have HX2 := Lib.hid hX2
            have HT2 := Lib.hid hT2
            have HD2 := Lib.hid hd2
            have HO2 := Lib.hid (HOA.out.trans hO2)
            clear hv hO2 hX2 hT2 hd2 d0 d1 d2
            have d1 := cell_at (o := 1) HD2.out rfl
            have d2 := cell_at (o := 2) HD2.out rfl
            go_wp2_with fail
            refine (timSet_at HT2.out _ _).mono ?_
            rintro e w3 ⟨rfl, F3, hT3, hO3, hF3⟩
            have HT3 := Lib.hid hT3
            have HX3 := Lib.hid (HX2.out.only hO3 (fun b hb => hb) hF3)
            have HF3 := Lib.hid (newer (w' := w3) hF3 HF.out HO2.out.size)
            have HO3 := Lib.hid (HO2.out.call hO3 (fun b hb => .inr (HF.out b hb)))
            clear hT3 hO3 hF3
            go_wp2_with fail
            go_meet
            case rel => exact ⟨_, F3, a2, cap2, by simp, rfl, HT3.out, HX3.out, HO3.out, HF3.out⟩
          · have e0 : (y.kind == 0) = false := by simp [k0]
            by_cases k1 : y.kind = 1
            · have e1 : (y.kind == 1) = true := by simp [k1]
              clear k1
              go_wp2_with fail
              refine (stop7_at HXA.out.weak (by have := HTA.out.ok.few; omega) _).mono ?_
              rintro e w2 ⟨v, rfl, hv, hO2⟩
              obtain ⟨a2, cap2, rfl, hX2⟩ := tms_own hv HTA.out.lt
              have hT2 := HTA.out.only hO2 (by simp)
              have hd2 := hO2.keep HDZ.out (by simp)
              have HX2 := Lib.hid hX2
              have HT2 := Lib.hid hT2
              have HD2 := Lib.hid hd2
              have HO2 := Lib.hid (HOA.out.trans hO2)
              clear hv hO2 hX2 hT2 hd2 d0 d1 d2
              have d1 := cell_at (o := 1) HD2.out rfl
              go_wp2_with fail
              refine (timStop_at HT2.out _).mono ?_
              rintro e w3 ⟨rfl, hT3, hO3⟩
              have hst := thas_len S y.id
              have HST := Lib.hid hst
              have HT3 := Lib.hid hT3
              have HX3 := Lib.hid (HX2.out.only hO3 (fun b hb => hb) (fun b hb => .inl hb))
              have HO3 := Lib.hid (HO2.out.call hO3 (fun b hb => .inr (HF.out b hb)))
              clear hT3 hO3 hst
              go_wp2_with fail
              go_meet
              case rel => exact ⟨_, F, a2, cap2, by rw [HST.out]; simp, rfl, HT3.out, HX3.out, HO3.out, HF.out⟩
            · have e1 : (y.kind == 1) = false := by simp [k1]
              by_cases k2 : y.kind = 2
              · have e2 : (y.kind == 2) = true := by simp [k2]
                clear k2
                go_wp2_with fail
                refine (due7_at HXA.out.weak (by have := HTA.out.ok.few; omega) _).mono ?_
                rintro e w2 ⟨v, u, rfl, hv, hu, hO2⟩
                obtain ⟨a2, cap2, rfl, hX2⟩ := tms_own hv HTA.out.lt
                have hzn := due_few HTA.out.ok.few y.at_
                generalize hzs : (tdue S y.at_).map Tm.id = zs at *
                have HZS := Lib.hid hzs
                clear hzs
                obtain ⟨ua, uc, rfl, hU2, hub⟩ := ints_own hu
                have hT2 := HTA.out.only hO2 (by simp)
                have hd2 := hO2.keep HDZ.out (by simp)
                have hUF : ∀ b o, ua = some ⟨b, o, none⟩ → b ∉ F := fun b o e hm => by have h1 := hub b o e; have h2 := HTA.out.lt b hm; omega
                have HX2 := Lib.hid hX2
                have HU2 := Lib.hid hU2
                have HUF := Lib.hid hUF
                have HT2 := Lib.hid hT2
                have HD2 := Lib.hid hd2
                have HO2 := Lib.hid (HOA.out.trans hO2)
                clear hv hu hO2 hX2 hU2 hT2 hd2 hub hUF d0 d1 d2
                have d2 := cell_at (o := 2) HD2.out rfl
                go_wp2_with fail
                refine (timDue_at HT2.out _).mono ?_
                rintro e w3 ⟨z, rfl, hz, hT3, hO3⟩
                rw [HZS.out] at hz
                obtain ⟨za, zc, rfl, hZ3, _⟩ := ints_own hz
                have HT3 := Lib.hid hT3
                have HZ3 := Lib.hid hZ3
                have HU3 := Lib.hid (HU2.out.only hO3 HUF.out)
                have HX3 := Lib.hid (HX2.out.only hO3 (fun b hb => hb) (fun b hb => .inl hb))
                have HO3 := Lib.hid (HO2.out.call hO3 (fun b hb => .inr (HF.out b hb)))
                clear hT3 hO3 hz hZ3
                go_wp2_with fail
                refine (ints_at HZ3.out HU3.out hzn).mono ?_
                rintro e w4 ⟨rfl, hO4⟩
                have HT4 := Lib.hid (HT3.out.only hO4 (by simp))
                have HX4 := Lib.hid (HX3.out.keep hO4)
                have HO4 := Lib.hid (HO3.out.trans hO4)
                clear hO4
                go_wp2_with fail
                go_meet
                case rel => exact ⟨_, F, a2, cap2, by simp, rfl, HT4.out, HX4.out, HO4.out, HF.out⟩
              · have e2 : (y.kind == 2) = false := by simp [k2]
                go_wp2_with fail
                go_meet
                case rel => exact ⟨S, F, a', cap', rfl, rfl, HTA.out, HXA.out, HOA.out, HF.out⟩
        case rest =>
          obtain ⟨S', F', a2, cap2, rfl, rfl, hT, hX, hO, hF⟩ := hcut
          have HT2 := Lib.hid hT
          have HX2 := Lib.hid hX
          have HO2 := Lib.hid hO
          have HF2 := Lib.hid hF
          clear hT hX hO hF
          go_wp2_with fail
          refine (timNext_at HT2.out).mono ?_
          rintro e w2 ⟨rfl, hO3⟩
          have HT3 := Lib.hid (HT2.out.only hO3 (by simp))
          have HX3 := Lib.hid (HX2.out.keep hO3)
          have HO3 := Lib.hid (HO2.out.trans hO3)
          clear hO3
          cases S' with
          | nil =>
            rw [decide_eq_false (show ¬ 0 < ([] : List Tm).length by simp)]
            unfold nextV
            have hOB : Only [] w2 (w2.alloc (.cells #[.int .i64 0, .int .i64 0] 42)) := (Only.refl [] w2).alloc _
            have hnz : (w2.alloc (.cells #[.int .i64 0, .int .i64 0] 42)).heap[w2.heap.size]? = some (.cells #[.int .i64 0, .int .i64 0] 42 (0, 0)) := heap_alloc_at rfl
            have HTB := Lib.hid (HT3.out.only hOB (by simp))
            have HXB := Lib.hid (HX3.out.keep hOB)
            have HOB := Lib.hid (HO3.out.trans hOB)
            clear hOB
            generalize hM : w2.heap.size = M at *
            go_wp2_with fail
            generalize hV : w2.alloc (.cells #[.int .i64 0, .int .i64 0] 42) = V at *
            clear hV hM
            have n0 : V.cell? ⟨M, 0, none⟩ = some (.int .i64 0) := cell_at hnz rfl
            have n1 : V.cell? ⟨M, 1, none⟩ = some (.int .i64 0) := cell_at hnz rfl
            clear hnz
            refine reg_begin 42 (S := fun w' => w'.cell? ⟨M, 0, none⟩ = some (.int .i64 0) ∧ w'.cell? ⟨M, 1, none⟩ = some (.int .i64 0)) (by rfl) (by kernel_rfl) ⟨n0, n1⟩ (fun hHeld => ?_)
            refine next_on 0 (by simp only [List.getElem?_toArray, List.getElem?_cons_succ, List.getElem?_cons_zero]; exact rfl) (by kernel_rfl) (by kernel_rfl) (by kernel_rfl) (by rfl) (fun _ _ _ h => h) hHeld (by intro w hSw; (try dsimp only at hSw); go_simp; (try with_reducible rfl)) ?_; (try simp only [Act.put, List.setIfInBounds_toArray, List.set_cons_zero, List.set_cons_succ])
            refine next_on 1 (by simp only [List.getElem?_toArray, List.getElem?_cons_succ, List.getElem?_cons_zero]; exact rfl) (by kernel_rfl) (by kernel_rfl) (by kernel_rfl) (by rfl) (fun _ _ _ h => h) hHeld (by intro w hSw; (try dsimp only at hSw); go_simp; (try with_reducible rfl)) ?_; (try simp only [Act.put, List.setIfInBounds_toArray, List.set_cons_zero, List.set_cons_succ])
            refine next_on 2 (by simp only [List.getElem?_toArray, List.getElem?_cons_succ, List.getElem?_cons_zero]; exact rfl) (by kernel_rfl) (by kernel_rfl) (by kernel_rfl) (by rfl) (fun _ _ _ h => h) hHeld (by intro w hSw; (try dsimp only at hSw); go_simp; (try with_reducible rfl)) ?_; (try simp only [Act.put, List.setIfInBounds_toArray, List.set_cons_zero, List.set_cons_succ])
            refine next_on 3 (by simp only [List.getElem?_toArray, List.getElem?_cons_succ, List.getElem?_cons_zero]; exact rfl) (by kernel_rfl) (by kernel_rfl) (by kernel_rfl) (by rfl) (fun _ _ _ h => h) hHeld (by intro w hSw; (try dsimp only at hSw); go_simp; (try with_reducible rfl)) ?_; (try simp only [Act.put, List.setIfInBounds_toArray, List.set_cons_zero, List.set_cons_succ])
            refine next_on 4 (by simp only [List.getElem?_toArray, List.getElem?_cons_succ, List.getElem?_cons_zero]; exact rfl) (by kernel_rfl) (by kernel_rfl) (by kernel_rfl) (by rfl) (fun _ _ _ h => h) hHeld (by intro w hSw; (try dsimp only at hSw); go_simp; (try with_reducible rfl)) ?_; (try simp only [Act.put, List.setIfInBounds_toArray, List.set_cons_zero, List.set_cons_succ])
            refine next_on 5 (by simp only [List.getElem?_toArray, List.getElem?_cons_succ, List.getElem?_cons_zero]; exact rfl) (by kernel_rfl) (by kernel_rfl) (by kernel_rfl) (by rfl) (fun _ _ _ h => h) hHeld (by intro w hSw; (try dsimp only at hSw); go_simp; (try with_reducible rfl)) ?_; (try simp only [Act.put, List.setIfInBounds_toArray, List.set_cons_zero, List.set_cons_succ])
            refine next_on 6 (by simp only [List.getElem?_toArray, List.getElem?_cons_succ, List.getElem?_cons_zero]; exact rfl) (by kernel_rfl) (by kernel_rfl) (by kernel_rfl) (by rfl) (fun _ _ _ h => h) hHeld (by intro w hSw; (try dsimp only at hSw); go_simp; (try with_reducible rfl)) ?_; (try simp only [Act.put, List.setIfInBounds_toArray, List.set_cons_zero, List.set_cons_succ])
            refine next_on 7 (by simp only [List.getElem?_toArray, List.getElem?_cons_succ, List.getElem?_cons_zero]; exact rfl) (by kernel_rfl) (by kernel_rfl) (by kernel_rfl) (by rfl) (fun _ _ _ h => h) hHeld (by intro w hSw; (try dsimp only at hSw); go_simp; (try with_reducible rfl)) ?_; (try simp only [Act.put, List.setIfInBounds_toArray, List.set_cons_zero, List.set_cons_succ])
            refine next_on 8 (by simp only [List.getElem?_toArray, List.getElem?_cons_succ, List.getElem?_cons_zero]; exact rfl) (by kernel_rfl) (by kernel_rfl) (by kernel_rfl) (by rfl) (fun _ _ _ h => h) hHeld (by intro w hSw; (try dsimp only at hSw); go_simp; (try with_reducible rfl)) ?_; (try simp only [Act.put, List.setIfInBounds_toArray, List.set_cons_zero, List.set_cons_succ])
            refine next_on 9 (by simp only [List.getElem?_toArray, List.getElem?_cons_succ, List.getElem?_cons_zero]; exact rfl) (by kernel_rfl) (by kernel_rfl) (by kernel_rfl) (by rfl) (fun _ _ _ h => h) hHeld (by intro w hSw; (try dsimp only at hSw); go_simp; (try with_reducible rfl)) ?_; (try simp only [Act.put, List.setIfInBounds_toArray, List.set_cons_zero, List.set_cons_succ])
            refine next_on 10 (by simp only [List.getElem?_toArray, List.getElem?_cons_succ, List.getElem?_cons_zero]; exact rfl) (by kernel_rfl) (by kernel_rfl) (by kernel_rfl) (by rfl) (fun _ _ _ h => h) hHeld (by intro w hSw; (try dsimp only at hSw); go_simp; (try with_reducible rfl)) ?_; (try simp only [Act.put, List.setIfInBounds_toArray, List.set_cons_zero, List.set_cons_succ])
            refine next_on 11 (by simp only [List.getElem?_toArray, List.getElem?_cons_succ, List.getElem?_cons_zero]; exact rfl) (by kernel_rfl) (by kernel_rfl) (by kernel_rfl) (by rfl) (fun _ _ _ h => h) hHeld (by intro w hSw; (try dsimp only at hSw); go_simp; (try with_reducible rfl)) ?_; (try simp only [Act.put, List.setIfInBounds_toArray, List.set_cons_zero, List.set_cons_succ])
            refine next_off 12 (by simp only [List.getElem?_toArray, List.getElem?_cons_succ, List.getElem?_cons_zero]; exact rfl) (by kernel_rfl) (by kernel_rfl) (by kernel_rfl) (by rfl) (fun _ _ _ h => h) hHeld ?_; (try simp only [Act.put, List.setIfInBounds_toArray, List.set_cons_zero, List.set_cons_succ])
            refine next_off 13 (by simp only [List.getElem?_toArray, List.getElem?_cons_succ, List.getElem?_cons_zero]; exact rfl) (by kernel_rfl) (by kernel_rfl) (by kernel_rfl) (by rfl) (fun _ _ _ h => h) hHeld ?_; (try simp only [Act.put, List.setIfInBounds_toArray, List.set_cons_zero, List.set_cons_succ])
            refine next_off 14 (by simp only [List.getElem?_toArray, List.getElem?_cons_succ, List.getElem?_cons_zero]; exact rfl) (by kernel_rfl) (by kernel_rfl) (by kernel_rfl) (by rfl) (fun _ _ _ h => h) hHeld ?_; (try simp only [Act.put, List.setIfInBounds_toArray, List.set_cons_zero, List.set_cons_succ])
            refine next_off 15 (by simp only [List.getElem?_toArray, List.getElem?_cons_succ, List.getElem?_cons_zero]; exact rfl) (by kernel_rfl) (by kernel_rfl) (by kernel_rfl) (by rfl) (fun _ _ _ h => h) hHeld ?_; (try simp only [Act.put, List.setIfInBounds_toArray, List.set_cons_zero, List.set_cons_succ])
            refine next_off 16 (by simp only [List.getElem?_toArray, List.getElem?_cons_succ, List.getElem?_cons_zero]; exact rfl) (by kernel_rfl) (by kernel_rfl) (by kernel_rfl) (by rfl) (fun _ _ _ h => h) hHeld ?_; (try simp only [Act.put, List.setIfInBounds_toArray, List.set_cons_zero, List.set_cons_succ])
            refine next_on 17 (by simp only [List.getElem?_toArray, List.getElem?_cons_succ, List.getElem?_cons_zero]; exact rfl) (by kernel_rfl) (by kernel_rfl) (by kernel_rfl) (by rfl) (fun _ _ _ h => h) hHeld (by intro w hSw; (try dsimp only at hSw); go_simp; (try with_reducible rfl)) ?_; (try simp only [Act.put, List.setIfInBounds_toArray, List.set_cons_zero, List.set_cons_succ])
            refine next_on 18 (by simp only [List.getElem?_toArray, List.getElem?_cons_succ, List.getElem?_cons_zero]; exact rfl) (by kernel_rfl) (by kernel_rfl) (by kernel_rfl) (by rfl) (fun _ _ _ h => h) hHeld (by intro w hSw; (try dsimp only at hSw); go_simp; (try with_reducible rfl)) ?_; (try simp only [Act.put, List.setIfInBounds_toArray, List.set_cons_zero, List.set_cons_succ])
            refine next_on 19 (by simp only [List.getElem?_toArray, List.getElem?_cons_succ, List.getElem?_cons_zero]; exact rfl) (by kernel_rfl) (by kernel_rfl) (by kernel_rfl) (by rfl) (fun _ _ _ h => h) hHeld (by intro w hSw; (try dsimp only at hSw); go_simp; (try with_reducible rfl)) ?_; (try simp only [Act.put, List.setIfInBounds_toArray, List.set_cons_zero, List.set_cons_succ])
            refine next_on 20 (by simp only [List.getElem?_toArray, List.getElem?_cons_succ, List.getElem?_cons_zero]; exact rfl) (by kernel_rfl) (by kernel_rfl) (by kernel_rfl) (by rfl) (fun _ _ _ h => h) hHeld (by intro w hSw; (try dsimp only at hSw); go_simp; (try with_reducible rfl)) ?_; (try simp only [Act.put, List.setIfInBounds_toArray, List.set_cons_zero, List.set_cons_succ])
            refine next_on 21 (by simp only [List.getElem?_toArray, List.getElem?_cons_succ, List.getElem?_cons_zero]; exact rfl) (by kernel_rfl) (by kernel_rfl) (by kernel_rfl) (by rfl) (fun _ _ _ h => h) hHeld (by intro w hSw; (try dsimp only at hSw); go_simp; (try with_reducible rfl)) ?_; (try simp only [Act.put, List.setIfInBounds_toArray, List.set_cons_zero, List.set_cons_succ])
            refine next_on 22 (by simp only [List.getElem?_toArray, List.getElem?_cons_succ, List.getElem?_cons_zero]; exact rfl) (by kernel_rfl) (by kernel_rfl) (by kernel_rfl) (by rfl) (fun _ _ _ h => h) hHeld (by intro w hSw; (try dsimp only at hSw); go_simp; (try with_reducible rfl)) ?_; (try simp only [Act.put, List.setIfInBounds_toArray, List.set_cons_zero, List.set_cons_succ])
            refine next_on 23 (by simp only [List.getElem?_toArray, List.getElem?_cons_succ, List.getElem?_cons_zero]; exact rfl) (by kernel_rfl) (by kernel_rfl) (by kernel_rfl) (by rfl) (fun _ _ _ h => h) hHeld (by intro w hSw; (try dsimp only at hSw); go_simp; (try with_reducible rfl)) ?_; (try simp only [Act.put, List.setIfInBounds_toArray, List.set_cons_zero, List.set_cons_succ])
            refine next_on 24 (by simp only [List.getElem?_toArray, List.getElem?_cons_succ, List.getElem?_cons_zero]; exact rfl) (by kernel_rfl) (by kernel_rfl) (by kernel_rfl) (by rfl) (fun _ _ _ h => h) hHeld (by intro w hSw; (try dsimp only at hSw); go_simp; (try with_reducible rfl)) ?_; (try simp only [Act.put, List.setIfInBounds_toArray, List.set_cons_zero, List.set_cons_succ])
            refine next_on 25 (by simp only [List.getElem?_toArray, List.getElem?_cons_succ, List.getElem?_cons_zero]; exact rfl) (by kernel_rfl) (by kernel_rfl) (by kernel_rfl) (by rfl) (fun _ _ _ h => h) hHeld (by intro w hSw; (try dsimp only at hSw); go_simp; (try with_reducible rfl)) ?_; (try simp only [Act.put, List.setIfInBounds_toArray, List.set_cons_zero, List.set_cons_succ])
            refine next_on 26 (by simp only [List.getElem?_toArray, List.getElem?_cons_succ, List.getElem?_cons_zero]; exact rfl) (by kernel_rfl) (by kernel_rfl) (by kernel_rfl) (by rfl) (fun _ _ _ h => h) hHeld (by intro w hSw; (try dsimp only at hSw); go_simp; (try with_reducible rfl)) ?_; (try simp only [Act.put, List.setIfInBounds_toArray, List.set_cons_zero, List.set_cons_succ])
            refine next_on 27 (by simp only [List.getElem?_toArray, List.getElem?_cons_succ, List.getElem?_cons_zero]; exact rfl) (by kernel_rfl) (by kernel_rfl) (by kernel_rfl) (by rfl) (fun _ _ _ h => h) hHeld (by intro w hSw; (try dsimp only at hSw); go_simp; (try with_reducible rfl)) ?_; (try simp only [Act.put, List.setIfInBounds_toArray, List.set_cons_zero, List.set_cons_succ])
            refine next_on 28 (by simp only [List.getElem?_toArray, List.getElem?_cons_succ, List.getElem?_cons_zero]; exact rfl) (by kernel_rfl) (by kernel_rfl) (by kernel_rfl) (by rfl) (fun _ _ _ h => h) hHeld (by intro w hSw; (try dsimp only at hSw); go_simp; (try with_reducible rfl)) ?_; (try simp only [Act.put, List.setIfInBounds_toArray, List.set_cons_zero, List.set_cons_succ])
            refine next_on 29 (by simp only [List.getElem?_toArray, List.getElem?_cons_succ, List.getElem?_cons_zero]; exact rfl) (by kernel_rfl) (by kernel_rfl) (by kernel_rfl) (by rfl) (fun _ _ _ h => h) hHeld (by intro w hSw; (try dsimp only at hSw); go_simp; (try with_reducible rfl)) ?_; (try simp only [Act.put, List.setIfInBounds_toArray, List.set_cons_zero, List.set_cons_succ])
            refine next_on 31 (by simp only [List.getElem?_toArray, List.getElem?_cons_succ, List.getElem?_cons_zero]; exact rfl) (by kernel_rfl) (by kernel_rfl) (by kernel_rfl) (by rfl) (fun _ _ _ h => h) hHeld (by intro w hSw; (try dsimp only at hSw); go_simp; (try with_reducible rfl)) ?_; (try simp only [Act.put, List.setIfInBounds_toArray, List.set_cons_zero, List.set_cons_succ])
            refine next_on 32 (by simp only [List.getElem?_toArray, List.getElem?_cons_succ, List.getElem?_cons_zero]; exact rfl) (by kernel_rfl) (by kernel_rfl) (by kernel_rfl) (by rfl) (fun _ _ _ h => h) hHeld (by intro w hSw; (try dsimp only at hSw); go_simp; (try with_reducible rfl)) ?_; (try simp only [Act.put, List.setIfInBounds_toArray, List.set_cons_zero, List.set_cons_succ])
            refine next_call 30 (by kernel_rfl) (by simp only [List.getElem?_toArray, List.getElem?_cons_succ, List.getElem?_cons_zero]; exact rfl) (by rfl) (fun K hK => ?_)
            go_simp
            refine (timLen_at (HTB.out.only (Only.refl [] V).drew (by simp))).mono ?_
            rintro e w' ⟨rfl, rfl⟩
            go_wp2_with fail
            refine hK.out _ _ hHeld (fun hHeld => ?_)
            clear hK K
            (try simp only [Act.put, List.setIfInBounds_toArray, List.set_cons_zero, List.set_cons_succ])
            refine next_on 33 (by simp only [List.getElem?_toArray, List.getElem?_cons_succ, List.getElem?_cons_zero]; exact rfl) (by kernel_rfl) (by kernel_rfl) (by kernel_rfl) (by rfl) (fun _ _ _ h => h) hHeld (by intro w hSw; (try dsimp only at hSw); go_simp; (try with_reducible rfl)) ?_; (try simp only [Act.put, List.setIfInBounds_toArray, List.set_cons_zero, List.set_cons_succ])
            refine next_on 34 (by simp only [List.getElem?_toArray, List.getElem?_cons_succ, List.getElem?_cons_zero]; exact rfl) (by kernel_rfl) (by kernel_rfl) (by kernel_rfl) (by rfl) (fun _ _ _ h => h) hHeld (by intro w hSw; (try dsimp only at hSw); go_simp; (try with_reducible rfl)) ?_; (try simp only [Act.put, List.setIfInBounds_toArray, List.set_cons_zero, List.set_cons_succ])
            refine next_on 35 (by simp only [List.getElem?_toArray, List.getElem?_cons_succ, List.getElem?_cons_zero]; exact rfl) (by kernel_rfl) (by kernel_rfl) (by kernel_rfl) (by rfl) (fun _ _ _ h => h) hHeld (by intro w hSw; (try dsimp only at hSw); go_simp; (try with_reducible rfl)) ?_; (try simp only [Act.put, List.setIfInBounds_toArray, List.set_cons_zero, List.set_cons_succ])
            refine next_on 36 (by simp only [List.getElem?_toArray, List.getElem?_cons_succ, List.getElem?_cons_zero]; exact rfl) (by kernel_rfl) (by kernel_rfl) (by kernel_rfl) (by rfl) (fun _ _ _ h => h) hHeld (by intro w hSw; (try dsimp only at hSw); go_simp; (try with_reducible rfl)) ?_; (try simp only [Act.put, List.setIfInBounds_toArray, List.set_cons_zero, List.set_cons_succ])
            refine next_on 38 (by simp only [List.getElem?_toArray, List.getElem?_cons_succ, List.getElem?_cons_zero]; exact rfl) (by kernel_rfl) (by kernel_rfl) (by kernel_rfl) (by rfl) (fun _ _ _ h => h) hHeld (by intro w hSw; (try dsimp only at hSw); go_simp; (try with_reducible rfl)) ?_; (try simp only [Act.put, List.setIfInBounds_toArray, List.set_cons_zero, List.set_cons_succ])
            refine next_call 37 (by kernel_rfl) (by simp only [List.getElem?_toArray, List.getElem?_cons_succ, List.getElem?_cons_zero]; exact rfl) (by rfl) (fun K hK => ?_)
            go_simp
            refine (timAll_at (HTB.out.only (Only.refl [] V).drew (by simp))).mono ?_
            rintro e w4 ⟨va, rfl, hva, hO4⟩
            obtain ⟨aa, ca, rfl, hA4⟩ := tms_own (F := []) hva (by simp)
            have HA4 := Lib.hid hA4
            have hO4' := (Only.refl [] V).drew.trans hO4
            have HO4 := Lib.hid hO4'
            have p0 := hO4'.cell n0 (by simp)
            have p1 := hO4'.cell n1 (by simp)
            clear hva hA4 hO4 hO4'
            go_wp2_with fail
            refine hK.out _ _ ⟨p0, p1⟩ (fun hHeld => ?_)
            clear hK K
            (try simp only [Act.put, List.setIfInBounds_toArray, List.set_cons_zero, List.set_cons_succ])
            refine next_call 39 (by kernel_rfl) (by simp only [List.getElem?_toArray, List.getElem?_cons_succ, List.getElem?_cons_zero]; exact rfl) (by rfl) (fun K hK => ?_)
            go_simp
            refine (same7_at HA4.out ((HXB.out.keep HO4.out).weak) (by simp)).mono ?_
            rintro e w5 ⟨rfl, hO5⟩
            have hO5' := HO4.out.trans hO5
            have HO5 := Lib.hid hO5'
            have q0 := hO5'.cell n0 (by simp)
            have q1 := hO5'.cell n1 (by simp)
            clear hO5 hO5'
            go_wp2_with fail
            refine hK.out _ _ ⟨q0, q1⟩ (fun hHeld => ?_)
            clear hK K
            (try simp only [Act.put, List.setIfInBounds_toArray, List.set_cons_zero, List.set_cons_succ])
            refine next_on 40 (by simp only [List.getElem?_toArray, List.getElem?_cons_succ, List.getElem?_cons_zero]; exact rfl) (by kernel_rfl) (by kernel_rfl) (by kernel_rfl) (by rfl) (fun _ _ _ h => h) hHeld (by intro w hSw; (try dsimp only at hSw); go_simp; (try with_reducible rfl)) ?_; (try simp only [Act.put, List.setIfInBounds_toArray, List.set_cons_zero, List.set_cons_succ])
            refine next_on 41 (by simp only [List.getElem?_toArray, List.getElem?_cons_succ, List.getElem?_cons_zero]; exact rfl) (by kernel_rfl) (by kernel_rfl) (by kernel_rfl) (by rfl) (fun _ _ _ h => h) hHeld (by intro w hSw; (try dsimp only at hSw); go_simp; (try with_reducible rfl)) ?_; (try simp only [Act.put, List.setIfInBounds_toArray, List.set_cons_zero, List.set_cons_succ])
            refine reg_end (by kernel_rfl) ?_ _
            go_wp2_with fail
            go_roundw
            case rel => exact ⟨k + 1, [], F', a2, cap2, by omega, by go_num, rfl, HTB.out.only HO5.out (by simp), HXB.out.keep HO5.out, HOB.out.trans HO5.out, HF2.out⟩
            case measure => simp [intOf]; omega
          | cons z r =>
            rw [decide_eq_true (show 0 < (z :: r).length by simp)]
            unfold nextV
            have hOB : Only [] w2 (w2.alloc (.cells #[.int .i64 z.id, .int .i64 z.at_] 42)) := (Only.refl [] w2).alloc _
            have hnz : (w2.alloc (.cells #[.int .i64 z.id, .int .i64 z.at_] 42)).heap[w2.heap.size]? = some (.cells #[.int .i64 z.id, .int .i64 z.at_] 42 (0, 0)) := heap_alloc_at rfl
            have HTB := Lib.hid (HT3.out.only hOB (by simp))
            have HXB := Lib.hid (HX3.out.keep hOB)
            have HOB := Lib.hid (HO3.out.trans hOB)
            have hfew2 : (z :: r).length ≤ 1048576 := by have := HTB.out.ok.few; omega
            clear hOB
            generalize hM : w2.heap.size = M at *
            go_wp2_with fail
            generalize hV : w2.alloc (.cells #[.int .i64 z.id, .int .i64 z.at_] 42) = V at *
            clear hV hM
            have n0 : V.cell? ⟨M, 0, none⟩ = some (.int .i64 z.id) := cell_at hnz rfl
            have n1 : V.cell? ⟨M, 1, none⟩ = some (.int .i64 z.at_) := cell_at hnz rfl
            obtain ⟨xb, xo, rfl, _, x0, x1⟩ := HXB.out 0 z rfl
            simp only [Nat.zero_mul, Nat.add_zero] at x0 x1
            have hlen1 : (0 : Int) < ((z :: r).length : Int) := by simp
            have hlen2 : (0 : Int) < (r.length : Int) + 1 := by omega
            clear hnz
            refine reg_begin 42 (S := fun w' => (w'.cell? ⟨M, 0, none⟩ = some (.int .i64 z.id) ∧ w'.cell? ⟨M, 1, none⟩ = some (.int .i64 z.at_)) ∧ (w'.cell? ⟨xb, xo, none⟩ = some (.int .i64 z.id) ∧ w'.cell? ⟨xb, xo + 1, none⟩ = some (.int .i64 z.at_))) (by rfl) (by kernel_rfl) ⟨⟨n0, n1⟩, ⟨x0, x1⟩⟩ (fun hHeld => ?_)
            refine next_on 0 (by simp only [List.getElem?_toArray, List.getElem?_cons_succ, List.getElem?_cons_zero]; exact rfl) (by kernel_rfl) (by kernel_rfl) (by kernel_rfl) (by rfl) (fun _ _ _ h => h) hHeld (by intro w hSw; (try dsimp only at hSw); go_simp; (try with_reducible rfl)) ?_; (try simp only [Act.put, List.setIfInBounds_toArray, List.set_cons_zero, List.set_cons_succ])
            refine next_on 1 (by simp only [List.getElem?_toArray, List.getElem?_cons_succ, List.getElem?_cons_zero]; exact rfl) (by kernel_rfl) (by kernel_rfl) (by kernel_rfl) (by rfl) (fun _ _ _ h => h) hHeld (by intro w hSw; (try dsimp only at hSw); go_simp; (try with_reducible rfl)) ?_; (try simp only [Act.put, List.setIfInBounds_toArray, List.set_cons_zero, List.set_cons_succ])
            refine next_on 2 (by simp only [List.getElem?_toArray, List.getElem?_cons_succ, List.getElem?_cons_zero]; exact rfl) (by kernel_rfl) (by kernel_rfl) (by kernel_rfl) (by rfl) (fun _ _ _ h => h) hHeld (by intro w hSw; (try dsimp only at hSw); go_simp; (try with_reducible rfl)) ?_; (try simp only [Act.put, List.setIfInBounds_toArray, List.set_cons_zero, List.set_cons_succ])
            refine next_on 3 (by simp only [List.getElem?_toArray, List.getElem?_cons_succ, List.getElem?_cons_zero]; exact rfl) (by kernel_rfl) (by kernel_rfl) (by kernel_rfl) (by rfl) (fun _ _ _ h => h) hHeld (by intro w hSw; (try dsimp only at hSw); go_simp; (try with_reducible rfl)) ?_; (try simp only [Act.put, List.setIfInBounds_toArray, List.set_cons_zero, List.set_cons_succ])
            refine next_on 4 (by simp only [List.getElem?_toArray, List.getElem?_cons_succ, List.getElem?_cons_zero]; exact rfl) (by kernel_rfl) (by kernel_rfl) (by kernel_rfl) (by rfl) (fun _ _ _ h => h) hHeld (by intro w hSw; (try dsimp only at hSw); go_simp; (try with_reducible rfl)) ?_; (try simp only [Act.put, List.setIfInBounds_toArray, List.set_cons_zero, List.set_cons_succ])
            refine next_on 5 (by simp only [List.getElem?_toArray, List.getElem?_cons_succ, List.getElem?_cons_zero]; exact rfl) (by kernel_rfl) (by kernel_rfl) (by kernel_rfl) (by rfl) (fun _ _ _ h => h) hHeld (by intro w hSw; (try dsimp only at hSw); go_simp; (try with_reducible rfl)) ?_; (try simp only [Act.put, List.setIfInBounds_toArray, List.set_cons_zero, List.set_cons_succ])
            refine next_on 6 (by simp only [List.getElem?_toArray, List.getElem?_cons_succ, List.getElem?_cons_zero]; exact rfl) (by kernel_rfl) (by kernel_rfl) (by kernel_rfl) (by rfl) (fun _ _ _ h => h) hHeld (by intro w hSw; (try dsimp only at hSw); go_simp; (try with_reducible rfl)) ?_; (try simp only [Act.put, List.setIfInBounds_toArray, List.set_cons_zero, List.set_cons_succ])
            refine next_on 7 (by simp only [List.getElem?_toArray, List.getElem?_cons_succ, List.getElem?_cons_zero]; exact rfl) (by kernel_rfl) (by kernel_rfl) (by kernel_rfl) (by rfl) (fun _ _ _ h => h) hHeld (by intro w hSw; (try dsimp only at hSw); go_simp; (try with_reducible rfl)) ?_; (try simp only [Act.put, List.setIfInBounds_toArray, List.set_cons_zero, List.set_cons_succ])
            refine next_on 8 (by simp only [List.getElem?_toArray, List.getElem?_cons_succ, List.getElem?_cons_zero]; exact rfl) (by kernel_rfl) (by kernel_rfl) (by kernel_rfl) (by rfl) (fun _ _ _ h => h) hHeld (by intro w hSw; (try dsimp only at hSw); go_simp; (try with_reducible rfl)) ?_; (try simp only [Act.put, List.setIfInBounds_toArray, List.set_cons_zero, List.set_cons_succ])
            refine next_on 9 (by simp only [List.getElem?_toArray, List.getElem?_cons_succ, List.getElem?_cons_zero]; exact rfl) (by kernel_rfl) (by kernel_rfl) (by kernel_rfl) (by rfl) (fun _ _ _ h => h) hHeld (by intro w hSw; (try dsimp only at hSw); go_simp; (try with_reducible rfl)) ?_; (try simp only [Act.put, List.setIfInBounds_toArray, List.set_cons_zero, List.set_cons_succ])
            refine next_on 10 (by simp only [List.getElem?_toArray, List.getElem?_cons_succ, List.getElem?_cons_zero]; exact rfl) (by kernel_rfl) (by kernel_rfl) (by kernel_rfl) (by rfl) (fun _ _ _ h => h) hHeld (by intro w hSw; (try dsimp only at hSw); go_simp; (try with_reducible rfl)) ?_; (try simp only [Act.put, List.setIfInBounds_toArray, List.set_cons_zero, List.set_cons_succ])
            refine next_on 11 (by simp only [List.getElem?_toArray, List.getElem?_cons_succ, List.getElem?_cons_zero]; exact rfl) (by kernel_rfl) (by kernel_rfl) (by kernel_rfl) (by rfl) (fun _ _ _ h => h) hHeld (by intro w hSw; (try dsimp only at hSw); go_simp; (try with_reducible rfl)) ?_; (try simp only [Act.put, List.setIfInBounds_toArray, List.set_cons_zero, List.set_cons_succ])
            refine next_on 12 (by simp only [List.getElem?_toArray, List.getElem?_cons_succ, List.getElem?_cons_zero]; exact rfl) (by kernel_rfl) (by kernel_rfl) (by kernel_rfl) (by rfl) (fun _ _ _ h => h) hHeld (by intro w hSw; (try dsimp only at hSw); go_simp; (try with_reducible rfl)) ?_; (try simp only [Act.put, List.setIfInBounds_toArray, List.set_cons_zero, List.set_cons_succ])
            refine next_on 13 (by simp only [List.getElem?_toArray, List.getElem?_cons_succ, List.getElem?_cons_zero]; exact rfl) (by kernel_rfl) (by kernel_rfl) (by kernel_rfl) (by rfl) (fun _ _ _ h => h) hHeld (by intro w hSw; (try dsimp only at hSw); go_simp; (try with_reducible rfl)) ?_; (try simp only [Act.put, List.setIfInBounds_toArray, List.set_cons_zero, List.set_cons_succ])
            refine next_on 14 (by simp only [List.getElem?_toArray, List.getElem?_cons_succ, List.getElem?_cons_zero]; exact rfl) (by kernel_rfl) (by kernel_rfl) (by kernel_rfl) (by rfl) (fun _ _ _ h => h) hHeld (by intro w hSw; (try dsimp only at hSw); go_simp; (try with_reducible rfl)) ?_; (try simp only [Act.put, List.setIfInBounds_toArray, List.set_cons_zero, List.set_cons_succ])
            refine next_on 15 (by simp only [List.getElem?_toArray, List.getElem?_cons_succ, List.getElem?_cons_zero]; exact rfl) (by kernel_rfl) (by kernel_rfl) (by kernel_rfl) (by rfl) (fun _ _ _ h => h) hHeld (by intro w hSw; (try dsimp only at hSw); go_simp; (try with_reducible rfl)) ?_; (try simp only [Act.put, List.setIfInBounds_toArray, List.set_cons_zero, List.set_cons_succ])
            refine next_on 16 (by simp only [List.getElem?_toArray, List.getElem?_cons_succ, List.getElem?_cons_zero]; exact rfl) (by kernel_rfl) (by kernel_rfl) (by kernel_rfl) (by rfl) (fun _ _ _ h => h) hHeld (by intro w hSw; (try dsimp only at hSw); go_simp; (try with_reducible rfl)) ?_; (try simp only [Act.put, List.setIfInBounds_toArray, List.set_cons_zero, List.set_cons_succ])
            refine next_on 17 (by simp only [List.getElem?_toArray, List.getElem?_cons_succ, List.getElem?_cons_zero]; exact rfl) (by kernel_rfl) (by kernel_rfl) (by kernel_rfl) (by rfl) (fun _ _ _ h => h) hHeld (by intro w hSw; (try dsimp only at hSw); go_simp; (try with_reducible rfl)) ?_; (try simp only [Act.put, List.setIfInBounds_toArray, List.set_cons_zero, List.set_cons_succ])
            refine next_on 18 (by simp only [List.getElem?_toArray, List.getElem?_cons_succ, List.getElem?_cons_zero]; exact rfl) (by kernel_rfl) (by kernel_rfl) (by kernel_rfl) (by rfl) (fun _ _ _ h => h) hHeld (by intro w hSw; (try dsimp only at hSw); go_simp; (try with_reducible rfl)) ?_; (try simp only [Act.put, List.setIfInBounds_toArray, List.set_cons_zero, List.set_cons_succ])
            refine next_on 19 (by simp only [List.getElem?_toArray, List.getElem?_cons_succ, List.getElem?_cons_zero]; exact rfl) (by kernel_rfl) (by kernel_rfl) (by kernel_rfl) (by rfl) (fun _ _ _ h => h) hHeld (by intro w hSw; (try dsimp only at hSw); go_simp; (try with_reducible rfl)) ?_; (try simp only [Act.put, List.setIfInBounds_toArray, List.set_cons_zero, List.set_cons_succ])
            refine next_on 20 (by simp only [List.getElem?_toArray, List.getElem?_cons_succ, List.getElem?_cons_zero]; exact rfl) (by kernel_rfl) (by kernel_rfl) (by kernel_rfl) (by rfl) (fun _ _ _ h => h) hHeld (by intro w hSw; (try dsimp only at hSw); go_simp; (try with_reducible rfl)) ?_; (try simp only [Act.put, List.setIfInBounds_toArray, List.set_cons_zero, List.set_cons_succ])
            refine next_on 21 (by simp only [List.getElem?_toArray, List.getElem?_cons_succ, List.getElem?_cons_zero]; exact rfl) (by kernel_rfl) (by kernel_rfl) (by kernel_rfl) (by rfl) (fun _ _ _ h => h) hHeld (by intro w hSw; (try dsimp only at hSw); go_simp; (try with_reducible rfl)) ?_; (try simp only [Act.put, List.setIfInBounds_toArray, List.set_cons_zero, List.set_cons_succ])
            refine next_on 22 (by simp only [List.getElem?_toArray, List.getElem?_cons_succ, List.getElem?_cons_zero]; exact rfl) (by kernel_rfl) (by kernel_rfl) (by kernel_rfl) (by rfl) (fun _ _ _ h => h) hHeld (by intro w hSw; (try dsimp only at hSw); go_simp; (try with_reducible rfl)) ?_; (try simp only [Act.put, List.setIfInBounds_toArray, List.set_cons_zero, List.set_cons_succ])
            refine next_off 23 (by simp only [List.getElem?_toArray, List.getElem?_cons_succ, List.getElem?_cons_zero]; exact rfl) (by kernel_rfl) (by kernel_rfl) (by kernel_rfl) (by rfl) (fun _ _ _ h => h) hHeld ?_; (try simp only [Act.put, List.setIfInBounds_toArray, List.set_cons_zero, List.set_cons_succ])
            refine next_off 24 (by simp only [List.getElem?_toArray, List.getElem?_cons_succ, List.getElem?_cons_zero]; exact rfl) (by kernel_rfl) (by kernel_rfl) (by kernel_rfl) (by rfl) (fun _ _ _ h => h) hHeld ?_; (try simp only [Act.put, List.setIfInBounds_toArray, List.set_cons_zero, List.set_cons_succ])
            refine next_off 25 (by simp only [List.getElem?_toArray, List.getElem?_cons_succ, List.getElem?_cons_zero]; exact rfl) (by kernel_rfl) (by kernel_rfl) (by kernel_rfl) (by rfl) (fun _ _ _ h => h) hHeld ?_; (try simp only [Act.put, List.setIfInBounds_toArray, List.set_cons_zero, List.set_cons_succ])
            refine next_on 26 (by simp only [List.getElem?_toArray, List.getElem?_cons_succ, List.getElem?_cons_zero]; exact rfl) (by kernel_rfl) (by kernel_rfl) (by kernel_rfl) (by rfl) (fun _ _ _ h => h) hHeld (by intro w hSw; (try dsimp only at hSw); go_simp; (try with_reducible rfl)) ?_; (try simp only [Act.put, List.setIfInBounds_toArray, List.set_cons_zero, List.set_cons_succ])
            refine next_on 27 (by simp only [List.getElem?_toArray, List.getElem?_cons_succ, List.getElem?_cons_zero]; exact rfl) (by kernel_rfl) (by kernel_rfl) (by kernel_rfl) (by rfl) (fun _ _ _ h => h) hHeld (by intro w hSw; (try dsimp only at hSw); go_simp; (try with_reducible rfl)) ?_; (try simp only [Act.put, List.setIfInBounds_toArray, List.set_cons_zero, List.set_cons_succ])
            refine next_on 28 (by simp only [List.getElem?_toArray, List.getElem?_cons_succ, List.getElem?_cons_zero]; exact rfl) (by kernel_rfl) (by kernel_rfl) (by kernel_rfl) (by rfl) (fun _ _ _ h => h) hHeld (by intro w hSw; (try dsimp only at hSw); go_simp; (try with_reducible rfl)) ?_; (try simp only [Act.put, List.setIfInBounds_toArray, List.set_cons_zero, List.set_cons_succ])
            refine next_on 29 (by simp only [List.getElem?_toArray, List.getElem?_cons_succ, List.getElem?_cons_zero]; exact rfl) (by kernel_rfl) (by kernel_rfl) (by kernel_rfl) (by rfl) (fun _ _ _ h => h) hHeld (by intro w hSw; (try dsimp only at hSw); go_simp; (try with_reducible rfl)) ?_; (try simp only [Act.put, List.setIfInBounds_toArray, List.set_cons_zero, List.set_cons_succ])
            refine next_on 31 (by simp only [List.getElem?_toArray, List.getElem?_cons_succ, List.getElem?_cons_zero]; exact rfl) (by kernel_rfl) (by kernel_rfl) (by kernel_rfl) (by rfl) (fun _ _ _ h => h) hHeld (by intro w hSw; (try dsimp only at hSw); go_simp; (try with_reducible rfl)) ?_; (try simp only [Act.put, List.setIfInBounds_toArray, List.set_cons_zero, List.set_cons_succ])
            refine next_on 32 (by simp only [List.getElem?_toArray, List.getElem?_cons_succ, List.getElem?_cons_zero]; exact rfl) (by kernel_rfl) (by kernel_rfl) (by kernel_rfl) (by rfl) (fun _ _ _ h => h) hHeld (by intro w hSw; (try dsimp only at hSw); go_simp; (try with_reducible rfl)) ?_; (try simp only [Act.put, List.setIfInBounds_toArray, List.set_cons_zero, List.set_cons_succ])
            refine next_call 30 (by kernel_rfl) (by simp only [List.getElem?_toArray, List.getElem?_cons_succ, List.getElem?_cons_zero]; exact rfl) (by rfl) (fun K hK => ?_)
            go_simp
            refine (timLen_at (HTB.out.only (Only.refl [] V).drew (by simp))).mono ?_
            rintro e w' ⟨rfl, rfl⟩
            go_wp2_with fail
            refine hK.out _ _ hHeld (fun hHeld => ?_)
            clear hK K
            (try simp only [Act.put, List.setIfInBounds_toArray, List.set_cons_zero, List.set_cons_succ])
            refine next_on 33 (by simp only [List.getElem?_toArray, List.getElem?_cons_succ, List.getElem?_cons_zero]; exact rfl) (by kernel_rfl) (by kernel_rfl) (by kernel_rfl) (by rfl) (fun _ _ _ h => h) hHeld (by intro w hSw; (try dsimp only at hSw); go_simp; (try with_reducible rfl)) ?_; (try simp only [Act.put, List.setIfInBounds_toArray, List.set_cons_zero, List.set_cons_succ])
            refine next_on 34 (by simp only [List.getElem?_toArray, List.getElem?_cons_succ, List.getElem?_cons_zero]; exact rfl) (by kernel_rfl) (by kernel_rfl) (by kernel_rfl) (by rfl) (fun _ _ _ h => h) hHeld (by intro w hSw; (try dsimp only at hSw); go_simp; (try with_reducible rfl)) ?_; (try simp only [Act.put, List.setIfInBounds_toArray, List.set_cons_zero, List.set_cons_succ])
            refine next_on 35 (by simp only [List.getElem?_toArray, List.getElem?_cons_succ, List.getElem?_cons_zero]; exact rfl) (by kernel_rfl) (by kernel_rfl) (by kernel_rfl) (by rfl) (fun _ _ _ h => h) hHeld (by intro w hSw; (try dsimp only at hSw); go_simp; (try with_reducible rfl)) ?_; (try simp only [Act.put, List.setIfInBounds_toArray, List.set_cons_zero, List.set_cons_succ])
            refine next_on 36 (by simp only [List.getElem?_toArray, List.getElem?_cons_succ, List.getElem?_cons_zero]; exact rfl) (by kernel_rfl) (by kernel_rfl) (by kernel_rfl) (by rfl) (fun _ _ _ h => h) hHeld (by intro w hSw; (try dsimp only at hSw); go_simp; (try with_reducible rfl)) ?_; (try simp only [Act.put, List.setIfInBounds_toArray, List.set_cons_zero, List.set_cons_succ])
            refine next_on 38 (by simp only [List.getElem?_toArray, List.getElem?_cons_succ, List.getElem?_cons_zero]; exact rfl) (by kernel_rfl) (by kernel_rfl) (by kernel_rfl) (by rfl) (fun _ _ _ h => h) hHeld (by intro w hSw; (try dsimp only at hSw); go_simp; (try with_reducible rfl)) ?_; (try simp only [Act.put, List.setIfInBounds_toArray, List.set_cons_zero, List.set_cons_succ])
            refine next_call 37 (by kernel_rfl) (by simp only [List.getElem?_toArray, List.getElem?_cons_succ, List.getElem?_cons_zero]; exact rfl) (by rfl) (fun K hK => ?_)
            go_simp
            refine (timAll_at (HTB.out.only (Only.refl [] V).drew (by simp))).mono ?_
            rintro e w4 ⟨va, rfl, hva, hO4⟩
            obtain ⟨aa, ca, rfl, hA4⟩ := tms_own (F := []) hva (by simp)
            have HA4 := Lib.hid hA4
            have hO4' := (Only.refl [] V).drew.trans hO4
            have HO4 := Lib.hid hO4'
            have p0 := hO4'.cell n0 (by simp)
            have p1 := hO4'.cell n1 (by simp)
            have p2 := hO4'.cell x0 (by simp)
            have p3 := hO4'.cell x1 (by simp)
            clear hva hA4 hO4 hO4'
            go_wp2_with fail
            refine hK.out _ _ ⟨⟨p0, p1⟩, ⟨p2, p3⟩⟩ (fun hHeld => ?_)
            clear hK K
            (try simp only [Act.put, List.setIfInBounds_toArray, List.set_cons_zero, List.set_cons_succ])
            refine next_call 39 (by kernel_rfl) (by simp only [List.getElem?_toArray, List.getElem?_cons_succ, List.getElem?_cons_zero]; exact rfl) (by rfl) (fun K hK => ?_)
            go_simp
            refine (same7_at HA4.out ((HXB.out.keep HO4.out).weak) hfew2).mono ?_
            rintro e w5 ⟨rfl, hO5⟩
            have hO5' := HO4.out.trans hO5
            have HO5 := Lib.hid hO5'
            have q0 := hO5'.cell n0 (by simp)
            have q1 := hO5'.cell n1 (by simp)
            have q2 := hO5'.cell x0 (by simp)
            have q3 := hO5'.cell x1 (by simp)
            clear hO5 hO5'
            go_wp2_with fail
            refine hK.out _ _ ⟨⟨q0, q1⟩, ⟨q2, q3⟩⟩ (fun hHeld => ?_)
            clear hK K
            (try simp only [Act.put, List.setIfInBounds_toArray, List.set_cons_zero, List.set_cons_succ])
            refine next_on 40 (by simp only [List.getElem?_toArray, List.getElem?_cons_succ, List.getElem?_cons_zero]; exact rfl) (by kernel_rfl) (by kernel_rfl) (by kernel_rfl) (by rfl) (fun _ _ _ h => h) hHeld (by intro w hSw; (try dsimp only at hSw); go_simp; (try with_reducible rfl)) ?_; (try simp only [Act.put, List.setIfInBounds_toArray, List.set_cons_zero, List.set_cons_succ])
            refine next_on 41 (by simp only [List.getElem?_toArray, List.getElem?_cons_succ, List.getElem?_cons_zero]; exact rfl) (by kernel_rfl) (by kernel_rfl) (by kernel_rfl) (by rfl) (fun _ _ _ h => h) hHeld (by intro w hSw; (try dsimp only at hSw); go_simp; (try with_reducible rfl)) ?_; (try simp only [Act.put, List.setIfInBounds_toArray, List.set_cons_zero, List.set_cons_succ])
            refine reg_end (by kernel_rfl) ?_ _
            go_wp2_with fail
            go_roundw
            case rel => exact ⟨k + 1, z :: r, F', some ⟨xb, xo, none⟩, cap2, by omega, by go_num, rfl, HTB.out.only HO5.out (by simp), HXB.out.keep HO5.out, HOB.out.trans HO5.out, HF2.out⟩
            case measure => simp [intOf]; omega
      · obtain rfl : k = l.length := by omega
        go_wp2_with fail
        refine (awake_at _).mono ?_
        rintro e w2 ⟨rfl, hO2⟩
        have HO2 := Lib.hid (HO.out.trans hO2)
        clear hO2
        go_wp2_with fail
        go_ret
        exact ⟨rfl, HO2.out⟩
end Go.Proofs.Ytimhccpfgpiecaa
