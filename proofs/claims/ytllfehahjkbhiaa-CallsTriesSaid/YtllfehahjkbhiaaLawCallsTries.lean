/- CallsTries: a call that is never answered is sent as often as may be, at longer and longer waits, and then given up. -/
import Derived.Test.YtllfehahjkbhiaaLaw14
import Derived.Test.YtllfehahjkbhiaaDeed14
namespace Go.Proofs.Ytllfehahjkbhiaa
open Go.RowKit Go.Lib
set_option linter.unusedSimpArgs false
set_option linter.unusedVariables false
/-- The one call, sent i times. -/
def kT (body : ByteArray) (i : Nat) (due : Int) : Kc := ⟨0, 1, i, due, body, 1, ByteArray.empty⟩
def CT (body : ByteArray) (i : Nat) (due : Int) : Cs := ⟨0, 1, [kT body i due]⟩
theorem tries_call {body : ByteArray} {now : Int} (h0 : 0 ≤ now) (h1 : now ≤ 549755813888) (hb : body.size ≤ 4096) : ccall (cnew 0 0) 1 body now = (CT body 0 now, 0, 0) := by
  unfold ccall
  have hm : momentB now = true := by unfold momentB; simp; omega
  rw [if_neg (by rw [hm]; simp), if_neg (by omega), if_neg (by decide)]; rfl
theorem tries_ahead (body : ByteArray) (i : Nat) (due : Int) : cdue (CT body i due) (due - 1) = (CT body i due, []) := cdue_still (k := kT body i due) rfl (by show due - 1 < due; omega)
theorem tries_again {body : ByteArray} {i : Nat} {due : Int} (hm : momentB due = true) (h8 : i < 8) : cdue (CT body i due) due = (CT body (i + 1) (due + waitOf i), [⟨1, 0, 1, 0, body⟩]) :=
  cdue_again (k := kT body i due) hm rfl (Int.le_refl _) (by show ¬ 8 ≤ i; omega)
theorem tries_over {body : ByteArray} {due : Int} (hm : momentB due = true) : cdue (CT body 8 due) due = (⟨0, 1, [(kT body 8 due).giveUp]⟩, []) :=
  cdue_giveUp (k := kT body 8 due) hm rfl (Int.le_refl _) (Nat.le_refl 8)
theorem tries_state (body : ByteArray) (i : Nat) (due : Int) : cstate (CT body i due) 0 = (1, ByteArray.empty) := rfl
theorem tries_state2 (body : ByteArray) (due : Int) : cstate ⟨0, 1, [(kT body 8 due).giveUp]⟩ 0 = (3, ByteArray.empty) := rfl
theorem tries_open (body : ByteArray) (due : Int) : (opens [(kT body 8 due).giveUp]).map Kc.id = [] := rfl
theorem tries_answer (body : ByteArray) (due : Int) : canswer ⟨0, 1, [(kT body 8 due).giveUp]⟩ ⟨2, 1, 0, 0, ByteArray.empty⟩ = (⟨0, 1, [(kT body 8 due).giveUp]⟩, false) := rfl
set_option maxHeartbeats 4000000 in
set_option maxRecDepth 100000 in
theorem callsTries_at (w : World) (now : Int) (body : ByteArray) (wn : (Lit.int .i64 now).wf = true) (hs : body.size ≤ maxLen) : Calls Try.prog 4 #[.int .i64 now, .string body] w fun e w' => e = .returned (.bool true) ∧ Only [] w w' := by
  unfold maxLen at hs
  clear wn
  by_cases hbad : now < 0 ∨ 549755813888 < now ∨ 4096 < body.size
  · have hgo : ∀ (b1 b2 b3 : Bool), decide (now < 0) = b1 → decide (549755813888 < now) = b2 → decide (4096 < (body.size : Int)) = b3 → (b1 || b2 || b3) = true := by
      rintro _ _ _ rfl rfl rfl
      simp; omega
    cases h1 : decide (now < 0) with
    | true =>
      clear hbad hgo
      go_enter Try.func4, Try.ntmps4
      go_wp2_with fail
      refine (awake_at _).mono ?_
      rintro e w1 ⟨rfl, hO⟩
      have HO := Lib.hid hO
      clear hO
      go_wp2_with fail
      go_ret
      exact ⟨rfl, HO.out⟩
    | false =>
      cases h2 : decide (549755813888 < now) with
      | true =>
        clear hbad hgo
        go_enter Try.func4, Try.ntmps4
        go_wp2_with fail
        refine (awake_at _).mono ?_
        rintro e w1 ⟨rfl, hO⟩
        have HO := Lib.hid hO
        clear hO
        go_wp2_with fail
        go_ret
        exact ⟨rfl, HO.out⟩
      | false =>
        have h3 : decide (4096 < (body.size : Int)) = true := by
          cases h3 : decide (4096 < (body.size : Int)) with
          | true => rfl
          | false => have := hgo _ _ _ h1 h2 h3; cases this
        clear hbad hgo
        go_enter Try.func4, Try.ntmps4
        go_wp2_with fail
        refine (awake_at _).mono ?_
        rintro e w1 ⟨rfl, hO⟩
        have HO := Lib.hid hO
        clear hO
        go_wp2_with fail
        go_ret
        exact ⟨rfl, HO.out⟩
  · have h0 : 0 ≤ now := by omega
    have h1 : now ≤ 549755813888 := by omega
    have hsz : body.size ≤ 4096 := by omega
    have e1 : decide (now < 0) = false := decide_eq_false (by omega)
    have e2 : decide (549755813888 < now) = false := decide_eq_false (by omega)
    have e3 : decide (4096 < (body.size : Int)) = false := decide_eq_false (by omega)
    have hcc := tries_call h0 h1 hsz
    have HCC := Lib.hid hcc
    have hs2 : body.size ≤ 9223372036854775807 := by omega
    clear hbad hcc
    go_enter Try.func4, Try.ntmps4
    go_wp2_with fail
    refine (calNew_at 0 0 _).mono ?_
    rintro e w1 ⟨c, F1, rfl, hC1, hO1, hF1⟩
    have HC1 := Lib.hid hC1
    have HO1 := Lib.hid hO1
    have HF1 := Lib.hid hF1
    clear hC1 hO1 hF1
    go_wp2_with fail
    refine (calCall_at HC1.out 1 body now hs2).mono ?_
    unfold CallPost
    rw [HCC.out]
    rintro e w2 ⟨rfl, F2, hC2, hO2, hF2⟩
    have HC2 := Lib.hid hC2
    have HF2 := Lib.hid (newer (w' := w2) hF2 HF1.out HO1.out.size)
    have HO2 := Lib.hid (HO1.out.call hO2 (fun b hb => .inr (HF1.out b hb)))
    clear hC2 hO2 hF2
    go_wp2_with fail
    go_loopw [0, 8, 9] (fun x v u wr => ∃ (i : Nat) (t : Int) (F : List Nat), i ≤ 8 ∧ 0 ≤ t ∧ t ≤ 549755813888 + 64 * i ∧ x = .int .i64 t ∧ v = .int .i64 (waitOf i) ∧ u = .int .i64 i ∧ CalAt wr c F (CT body i t) ∧ Only [] w wr ∧ ∀ b ∈ F, w.heap.size ≤ b) (fun _ _ u _ => 8 - (intOf u).toNat)
    case atStart => exact ⟨0, now, F2, by omega, h0, by omega, rfl, rfl, rfl, HC2.out, HO2.out, HF2.out⟩
    case round =>
      obtain ⟨i, t, F, hi, t0, t1, rfl, rfl, rfl, hC, hO, hF⟩ := hrel
      have HC := Lib.hid hC
      have HO := Lib.hid hO
      have HF := Lib.hid hF
      have hw := waitOf_bd i
      have hm : momentB t = true := by unfold momentB; simp; omega
      clear hC hO hF
      by_cases hi8 : i < 8
      · have hi' : (i : Int) < 8 := by omega
        have hag := tries_again (body := body) hm hi8
        have HAG := Lib.hid hag
        clear hm hag
        go_wp2_with fail
        refine (calDue_at HC.out (t - 1)).mono ?_
        rw [tries_ahead]
        rintro e w3 ⟨v3, rfl, hv3, F3, hC3, hO3, hF3, hg3⟩
        obtain ⟨a3, k3, rfl, _, _⟩ := rows_own mg_len (by decide) hv3
        have HC3 := Lib.hid hC3
        have HF3 := Lib.hid (newer (w' := w3) hF3 HF.out HO.out.size)
        have HO3 := Lib.hid (HO.out.call hO3 (fun b hb => .inr (HF.out b hb)))
        clear hv3 hC3 hO3 hF3 hg3
        go_wp2_with fail
        refine (calDue_at HC3.out t).mono ?_
        rw [HAG.out]
        rintro e w4 ⟨v4, rfl, hv4, F4, hC4, hO4, hF4, hg4⟩
        obtain ⟨a4, k4, rfl, _, _⟩ := rows_own mg_len (by decide) hv4
        have HC4 := Lib.hid hC4
        have HF4 := Lib.hid (newer (w' := w4) hF4 HF3.out HO3.out.size)
        have HO4 := Lib.hid (HO3.out.call hO4 (fun b hb => .inr (HF3.out b hb)))
        clear hv4 hC4 hO4 hF4 hg4
        go_wp2_with fail
        go_roundw
        case rel => exact ⟨i + 1, t + waitOf i, F4, by omega, by omega, by omega, by go_num, rfl, by go_num, HC4.out, HO4.out, HF4.out⟩
        case measure => simp [intOf]; omega
      · obtain rfl : i = 8 := by omega
        have hov := tries_over (body := body) hm
        have HOV := Lib.hid hov
        clear hm hov
        go_wp2_with fail
        refine (calState_at HC.out 0).mono ?_
        rw [tries_state]
        rintro e w3 ⟨rfl, hO3⟩
        have HC3 := Lib.hid (HC.out.only hO3 (by simp))
        have HO3 := Lib.hid (HO.out.trans hO3)
        clear hO3
        go_wp2_with fail
        refine (calDue_at HC3.out (t - 1)).mono ?_
        rw [tries_ahead]
        rintro e w4 ⟨v4, rfl, hv4, F4, hC4, hO4, hF4, hg4⟩
        obtain ⟨a4, k4, rfl, _, _⟩ := rows_own mg_len (by decide) hv4
        have HC4 := Lib.hid hC4
        have HF4 := Lib.hid (newer (w' := w4) hF4 HF.out HO3.out.size)
        have HO4 := Lib.hid (HO3.out.call hO4 (fun b hb => .inr (HF.out b hb)))
        clear hv4 hC4 hO4 hF4 hg4
        go_wp2_with fail
        refine (calDue_at HC4.out t).mono ?_
        rw [HOV.out]
        rintro e w5 ⟨v5, rfl, hv5, F5, hC5, hO5, hF5, hg5⟩
        obtain ⟨a5, k5, rfl, _, _⟩ := rows_own mg_len (by decide) hv5
        have HC5 := Lib.hid hC5
        have HF5 := Lib.hid (newer (w' := w5) hF5 HF4.out HO4.out.size)
        have HO5 := Lib.hid (HO4.out.call hO5 (fun b hb => .inr (HF4.out b hb)))
        clear hv5 hC5 hO5 hF5 hg5
        go_wp2_with fail
        refine (calState_at HC5.out 0).mono ?_
        rw [tries_state2]
        rintro e w6 ⟨rfl, hO6⟩
        have HC6 := Lib.hid (HC5.out.only hO6 (by simp))
        have HO6 := Lib.hid (HO5.out.trans hO6)
        clear hO6
        go_wp2_with fail
        refine (calOpen_at HC6.out).mono ?_
        dsimp only
        rw [tries_open]
        rintro e w7 ⟨v7, rfl, hv7, hO7⟩
        obtain ⟨a7, k7, rfl, _, _⟩ := ints_own (l := []) hv7
        have HC7 := Lib.hid (HC6.out.only hO7 (by simp))
        have HO7 := Lib.hid (HO6.out.trans hO7)
        clear hv7 hO7
        go_wp2_with fail
        refine (calAnswer_at HC7.out ⟨2, 1, 0, 0, ByteArray.empty⟩).mono ?_
        rw [tries_answer]
        rintro e w8 ⟨rfl, hC8, hO8⟩
        have HO8 := Lib.hid (HO7.out.call hO8 (fun b hb => .inr (HF5.out b hb)))
        clear hC8 hO8
        go_wp2_with fail
        refine (awake_at _).mono ?_
        rintro e w9 ⟨rfl, hO9⟩
        have HO9 := Lib.hid (HO8.out.trans hO9)
        clear hO9
        go_wp2_with fail
        go_ret
        exact ⟨rfl, HO9.out⟩
end Go.Proofs.Ytllfehahjkbhiaa
