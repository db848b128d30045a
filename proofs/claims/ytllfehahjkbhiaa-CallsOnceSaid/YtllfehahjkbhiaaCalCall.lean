/- Calls in memory: Call. -/
import Derived.Test.YtllfehahjkbhiaaCalAns
namespace Go.Proofs.Ytllfehahjkbhiaa
open Go.RowKit Go.Lib
set_option linter.unusedSimpArgs false
set_option linter.unusedVariables false
theorem calCall_nil (tt : Int) (body : ByteArray) (now : Int) (w : World) : Calls Try.prog 12 #[.pointer none, .int .i64 tt, .string body, .int .i64 now] w fun e w' => e = .returned (.tuple #[.int .i64 0, .int .i64 1]) ∧ w = w' := by
  go_enter Try.func12, Try.ntmps12
  go_wp2_with fail
  go_ret2
  exact ⟨rfl, rfl⟩
def CallPost (w : World) (c : Nat) (F : List Nat) (C : Cs) (tt : Int) (body : ByteArray) (now : Int) (e : Ending) (w' : World) : Prop :=
  e = .returned (.tuple #[.int .i64 (ccall C tt body now).2.1, .int .i64 (ccall C tt body now).2.2]) ∧ ∃ F', CalAt w' c F' (ccall C tt body now).1 ∧ Only F w w' ∧ ∀ b ∈ F', b ∈ F ∨ w.heap.size ≤ b
theorem callPost_no {w w' : World} {c : Nat} {F : List Nat} {C : Cs} {tt : Int} {body : ByteArray} {now : Int} {n : Int} (h : CalAt w c F C) (hc : ccall C tt body now = (C, 0, n)) (hO : Only [] w w') : CallPost w c F C tt body now (.returned (.tuple #[.int .i64 0, .int .i64 n])) w' := by
  unfold CallPost
  rw [hc]
  exact ⟨rfl, F, h.only hO (by simp), hO.mono (by simp), fun b hb => .inl hb⟩
set_option maxHeartbeats 4000000 in
set_option maxRecDepth 100000 in
theorem calCall_at {w : World} {c : Nat} {F : List Nat} {C : Cs} (h : CalAt w c F C) (tt : Int) (body : ByteArray) (now : Int) (hs : body.size ≤ 9223372036854775807) :
    Calls Try.prog 12 #[.pointer (some ⟨c, 0, none⟩), .int .i64 tt, .string body, .int .i64 now] w (CallPost w c F C tt body now) := by
  have HA := Lib.hid h
  by_cases ht0 : tt < 0
  · have e0 : decide (tt < 0) = true := decide_eq_true ht0
    have hcc : ccall C tt body now = (C, 0, 1) := by unfold ccall; rw [if_pos (.inl ht0)]
    have HCC := Lib.hid hcc
    clear h ht0 hcc
    go_enter Try.func12, Try.ntmps12
    go_wp2_with fail
    go_ret2
    exact callPost_no HA.out HCC.out (Only.refl _ _)
  have e0 : decide (tt < 0) = false := decide_eq_false ht0
  by_cases ht1 : 63 < tt
  · have e1 : decide (63 < tt) = true := decide_eq_true ht1
    have hcc : ccall C tt body now = (C, 0, 1) := by unfold ccall; rw [if_pos (.inr (.inl ht1))]
    have HCC := Lib.hid hcc
    clear h ht0 ht1 hcc
    go_enter Try.func12, Try.ntmps12
    go_wp2_with fail
    go_ret2
    exact callPost_no HA.out HCC.out (Only.refl _ _)
  have e1 : decide (63 < tt) = false := decide_eq_false ht1
  cases hm : momentB now with
  | false =>
    have hcc : ccall C tt body now = (C, 0, 1) := by unfold ccall; rw [if_pos (.inr (.inr hm))]
    have HCC := Lib.hid hcc
    have HM := Lib.hid hm
    clear h ht0 ht1 hcc hm
    go_enter Try.func12, Try.ntmps12
    go_wp2_with fail
    refine (calMoment_at _ _).mono ?_
    rintro e w1 ⟨rfl, rfl⟩
    rw [HM.out]
    go_wp2_with fail
    go_ret2
    exact callPost_no HA.out HCC.out (Only.refl _ _)
  | true =>
    have hnot : ¬ (tt < 0 ∨ 63 < tt ∨ momentB now = false) := by rintro (h1 | h1 | h1); exact ht0 h1; exact ht1 h1; rw [hm] at h1; cases h1
    have HM := Lib.hid hm
    have HNOT := Lib.hid hnot
    clear ht0 ht1 hnot hm
    by_cases hsz : 4096 < body.size
    · have e2 : decide (4096 < (body.size : Int)) = true := decide_eq_true (by omega)
      have hcc : ccall C tt body now = (C, 0, 2) := by unfold ccall; rw [if_neg HNOT.out, if_pos hsz]
      have HCC := Lib.hid hcc
      clear h hcc hsz
      go_enter Try.func12, Try.ntmps12
      go_wp2_with fail
      refine (calMoment_at _ _).mono ?_
      rintro e w1 ⟨rfl, rfl⟩
      rw [HM.out]
      go_wp2_with fail
      go_ret2
      exact callPost_no HA.out HCC.out (Only.refl _ _)
    have e2 : decide (4096 < (body.size : Int)) = false := decide_eq_false (by omega)
    have HSZ := Lib.hid hsz
    clear hsz
    obtain ⟨bm, t, Ft, P, es, ck, hc, hb, hM, hP, hk, hn, hT, rfl, h1, h2, h3⟩ := h.obj
    have c1 : w.cell? ⟨c, 1, none⟩ = some (.int .i64 C.next) := cell_at hc rfl
    have c2 : w.cell? ⟨c, 2, none⟩ = some (.map (some bm)) := cell_at hc rfl
    have c3 : w.cell? ⟨c, 3, none⟩ = some (.pointer (some ⟨t, 0, none⟩)) := cell_at hc rfl
    have HC := Lib.hid hc
    have HB := Lib.hid hb
    have HMM := Lib.hid hM
    have HP := Lib.hid hP
    have HK := Lib.hid hk
    have HN := Lib.hid hn
    have HT := Lib.hid hT
    have H1 := Lib.hid h1
    have H2 := Lib.hid h2
    have H3 := Lib.hid h3
    clear hc hb hM hP hk hn hT h1 h2 h3 h
    have hnx := HA.out.ok.next
    by_cases hend : 2147483647 ≤ C.next
    · have e3 : decide (2147483647 ≤ C.next) = true := decide_eq_true hend
      have hcc : ccall C tt body now = (C, 0, 5) := by unfold ccall; rw [if_neg HNOT.out, if_neg HSZ.out, if_pos (.inl hend)]
      have HCC := Lib.hid hcc
      clear hcc hend
      go_enter Try.func12, Try.ntmps12
      go_wp2_with fail
      refine (calMoment_at _ _).mono ?_
      rintro e w1 ⟨rfl, rfl⟩
      rw [HM.out]
      go_wp2_with fail
      refine reg_begin 19 (S := fun w' => w'.cell? ⟨c, 1, none⟩ = some (.int .i64 C.next)) (by rfl) (by kernel_rfl) c1 (fun hHeld => ?_)
      refine next_on 0 (by simp only [List.getElem?_toArray, List.getElem?_cons_succ, List.getElem?_cons_zero]; exact rfl) (by kernel_rfl) (by kernel_rfl) (by kernel_rfl) (by rfl) (fun _ _ _ h => h) hHeld (by intro w hSw; (try dsimp only at hSw); go_simp; (try with_reducible rfl)) ?_; (try simp only [Act.put, List.setIfInBounds_toArray, List.set_cons_zero, List.set_cons_succ])
      refine next_on 1 (by simp only [List.getElem?_toArray, List.getElem?_cons_succ, List.getElem?_cons_zero]; exact rfl) (by kernel_rfl) (by kernel_rfl) (by kernel_rfl) (by rfl) (fun _ _ _ h => h) hHeld (by intro w hSw; (try dsimp only at hSw); go_simp; (try with_reducible rfl)) ?_; (try simp only [Act.put, List.setIfInBounds_toArray, List.set_cons_zero, List.set_cons_succ])
      refine next_on 2 (by simp only [List.getElem?_toArray, List.getElem?_cons_succ, List.getElem?_cons_zero]; exact rfl) (by kernel_rfl) (by kernel_rfl) (by kernel_rfl) (by rfl) (fun _ _ _ h => h) hHeld (by intro w hSw; (try dsimp only at hSw); go_simp; (try with_reducible rfl)) ?_; (try simp only [Act.put, List.setIfInBounds_toArray, List.set_cons_zero, List.set_cons_succ])
      refine next_on 3 (by simp only [List.getElem?_toArray, List.getElem?_cons_succ, List.getElem?_cons_zero]; exact rfl) (by kernel_rfl) (by kernel_rfl) (by kernel_rfl) (by rfl) (fun _ _ _ h => h) hHeld (by intro w hSw; (try dsimp only at hSw); go_simp; (try with_reducible rfl)) ?_; (try simp only [Act.put, List.setIfInBounds_toArray, List.set_cons_zero, List.set_cons_succ])
      refine next_on 4 (by simp only [List.getElem?_toArray, List.getElem?_cons_succ, List.getElem?_cons_zero]; exact rfl) (by kernel_rfl) (by kernel_rfl) (by kernel_rfl) (by rfl) (fun _ _ _ h => h) hHeld (by intro w hSw; (try dsimp only at hSw); go_simp; (try with_reducible rfl)) ?_; (try simp only [Act.put, List.setIfInBounds_toArray, List.set_cons_zero, List.set_cons_succ])
      refine next_on 5 (by simp only [List.getElem?_toArray, List.getElem?_cons_succ, List.getElem?_cons_zero]; exact rfl) (by kernel_rfl) (by kernel_rfl) (by kernel_rfl) (by rfl) (fun _ _ _ h => h) hHeld (by intro w hSw; (try dsimp only at hSw); go_simp; (try with_reducible rfl)) ?_; (try simp only [Act.put, List.setIfInBounds_toArray, List.set_cons_zero, List.set_cons_succ])
      refine next_off 6 (by simp only [List.getElem?_toArray, List.getElem?_cons_succ, List.getElem?_cons_zero]; exact rfl) (by kernel_rfl) (by kernel_rfl) (by kernel_rfl) (by rfl) (fun _ _ _ h => h) hHeld ?_; (try simp only [Act.put, List.setIfInBounds_toArray, List.set_cons_zero, List.set_cons_succ])
      refine next_off 7 (by simp only [List.getElem?_toArray, List.getElem?_cons_succ, List.getElem?_cons_zero]; exact rfl) (by kernel_rfl) (by kernel_rfl) (by kernel_rfl) (by rfl) (fun _ _ _ h => h) hHeld ?_; (try simp only [Act.put, List.setIfInBounds_toArray, List.set_cons_zero, List.set_cons_succ])
      refine next_off 8 (by simp only [List.getElem?_toArray, List.getElem?_cons_succ, List.getElem?_cons_zero]; exact rfl) (by kernel_rfl) (by kernel_rfl) (by kernel_rfl) (by rfl) (fun _ _ _ h => h) hHeld ?_; (try simp only [Act.put, List.setIfInBounds_toArray, List.set_cons_zero, List.set_cons_succ])
      refine next_off 9 (by simp only [List.getElem?_toArray, List.getElem?_cons_succ, List.getElem?_cons_zero]; exact rfl) (by kernel_rfl) (by kernel_rfl) (by kernel_rfl) (by rfl) (fun _ _ _ h => h) hHeld ?_; (try simp only [Act.put, List.setIfInBounds_toArray, List.set_cons_zero, List.set_cons_succ])
      refine next_off 10 (by simp only [List.getElem?_toArray, List.getElem?_cons_succ, List.getElem?_cons_zero]; exact rfl) (by kernel_rfl) (by kernel_rfl) (by kernel_rfl) (by rfl) (fun _ _ _ h => h) hHeld ?_; (try simp only [Act.put, List.setIfInBounds_toArray, List.set_cons_zero, List.set_cons_succ])
      refine next_off 11 (by simp only [List.getElem?_toArray, List.getElem?_cons_succ, List.getElem?_cons_zero]; exact rfl) (by kernel_rfl) (by kernel_rfl) (by kernel_rfl) (by rfl) (fun _ _ _ h => h) hHeld ?_; (try simp only [Act.put, List.setIfInBounds_toArray, List.set_cons_zero, List.set_cons_succ])
      refine next_off 12 (by simp only [List.getElem?_toArray, List.getElem?_cons_succ, List.getElem?_cons_zero]; exact rfl) (by kernel_rfl) (by kernel_rfl) (by kernel_rfl) (by rfl) (fun _ _ _ h => h) hHeld ?_; (try simp only [Act.put, List.setIfInBounds_toArray, List.set_cons_zero, List.set_cons_succ])
      refine next_off 13 (by simp only [List.getElem?_toArray, List.getElem?_cons_succ, List.getElem?_cons_zero]; exact rfl) (by kernel_rfl) (by kernel_rfl) (by kernel_rfl) (by rfl) (fun _ _ _ h => h) hHeld ?_; (try simp only [Act.put, List.setIfInBounds_toArray, List.set_cons_zero, List.set_cons_succ])
      refine next_off 14 (by simp only [List.getElem?_toArray, List.getElem?_cons_succ, List.getElem?_cons_zero]; exact rfl) (by kernel_rfl) (by kernel_rfl) (by kernel_rfl) (by rfl) (fun _ _ _ h => h) hHeld ?_; (try simp only [Act.put, List.setIfInBounds_toArray, List.set_cons_zero, List.set_cons_succ])
      refine next_off 15 (by simp only [List.getElem?_toArray, List.getElem?_cons_succ, List.getElem?_cons_zero]; exact rfl) (by kernel_rfl) (by kernel_rfl) (by kernel_rfl) (by rfl) (fun _ _ _ h => h) hHeld ?_; (try simp only [Act.put, List.setIfInBounds_toArray, List.set_cons_zero, List.set_cons_succ])
      refine next_off 16 (by simp only [List.getElem?_toArray, List.getElem?_cons_succ, List.getElem?_cons_zero]; exact rfl) (by kernel_rfl) (by kernel_rfl) (by kernel_rfl) (by rfl) (fun _ _ _ h => h) hHeld ?_; (try simp only [Act.put, List.setIfInBounds_toArray, List.set_cons_zero, List.set_cons_succ])
      refine next_on 17 (by simp only [List.getElem?_toArray, List.getElem?_cons_succ, List.getElem?_cons_zero]; exact rfl) (by kernel_rfl) (by kernel_rfl) (by kernel_rfl) (by rfl) (fun _ _ _ h => h) hHeld (by intro w hSw; (try dsimp only at hSw); go_simp; (try with_reducible rfl)) ?_; (try simp only [Act.put, List.setIfInBounds_toArray, List.set_cons_zero, List.set_cons_succ])
      refine next_on 18 (by simp only [List.getElem?_toArray, List.getElem?_cons_succ, List.getElem?_cons_zero]; exact rfl) (by kernel_rfl) (by kernel_rfl) (by kernel_rfl) (by rfl) (fun _ _ _ h => h) hHeld (by intro w hSw; (try dsimp only at hSw); go_simp; (try with_reducible rfl)) ?_; (try simp only [Act.put, List.setIfInBounds_toArray, List.set_cons_zero, List.set_cons_succ])
      refine reg_end (by kernel_rfl) ?_ _
      go_wp2_with fail
      go_ret2
      exact callPost_no HA.out HCC.out (Only.refl _ _).drew
    have e3 : decide (2147483647 ≤ C.next) = false := decide_eq_false hend
    have htm := ccall_tms HA.out.ok tt body HM.out
    have HTM := Lib.hid htm
    clear htm
    by_cases hfull : 64 ≤ (opens C.L).length
    · have hcc : ccall C tt body now = (C, 0, 5) := by unfold ccall; rw [if_neg HNOT.out, if_neg HSZ.out, if_pos (.inr hfull)]
      have htm := HTM.out
      rw [if_pos hfull] at htm
      have HCC := Lib.hid hcc
      have HTM := Lib.hid htm
      clear hcc hend hfull htm
      go_enter Try.func12, Try.ntmps12
      go_wp2_with fail
      refine (calMoment_at _ _).mono ?_
      rintro e w1 ⟨rfl, rfl⟩
      rw [HM.out]
      go_wp2_with fail
      refine reg_begin 19 (S := fun w' => w'.cell? ⟨c, 1, none⟩ = some (.int .i64 C.next) ∧ w'.cell? ⟨c, 3, none⟩ = some (.pointer (some ⟨t, 0, none⟩))) (by rfl) (by kernel_rfl) ⟨c1, c3⟩ (fun hHeld => ?_)
      refine next_on 0 (by simp only [List.getElem?_toArray, List.getElem?_cons_succ, List.getElem?_cons_zero]; exact rfl) (by kernel_rfl) (by kernel_rfl) (by kernel_rfl) (by rfl) (fun _ _ _ h => h) hHeld (by intro w hSw; (try dsimp only at hSw); go_simp; (try with_reducible rfl)) ?_; (try simp only [Act.put, List.setIfInBounds_toArray, List.set_cons_zero, List.set_cons_succ])
      refine next_on 1 (by simp only [List.getElem?_toArray, List.getElem?_cons_succ, List.getElem?_cons_zero]; exact rfl) (by kernel_rfl) (by kernel_rfl) (by kernel_rfl) (by rfl) (fun _ _ _ h => h) hHeld (by intro w hSw; (try dsimp only at hSw); go_simp; (try with_reducible rfl)) ?_; (try simp only [Act.put, List.setIfInBounds_toArray, List.set_cons_zero, List.set_cons_succ])
      refine next_on 2 (by simp only [List.getElem?_toArray, List.getElem?_cons_succ, List.getElem?_cons_zero]; exact rfl) (by kernel_rfl) (by kernel_rfl) (by kernel_rfl) (by rfl) (fun _ _ _ h => h) hHeld (by intro w hSw; (try dsimp only at hSw); go_simp; (try with_reducible rfl)) ?_; (try simp only [Act.put, List.setIfInBounds_toArray, List.set_cons_zero, List.set_cons_succ])
      refine next_on 3 (by simp only [List.getElem?_toArray, List.getElem?_cons_succ, List.getElem?_cons_zero]; exact rfl) (by kernel_rfl) (by kernel_rfl) (by kernel_rfl) (by rfl) (fun _ _ _ h => h) hHeld (by intro w hSw; (try dsimp only at hSw); go_simp; (try with_reducible rfl)) ?_; (try simp only [Act.put, List.setIfInBounds_toArray, List.set_cons_zero, List.set_cons_succ])
      refine next_on 4 (by simp only [List.getElem?_toArray, List.getElem?_cons_succ, List.getElem?_cons_zero]; exact rfl) (by kernel_rfl) (by kernel_rfl) (by kernel_rfl) (by rfl) (fun _ _ _ h => h) hHeld (by intro w hSw; (try dsimp only at hSw); go_simp; (try with_reducible rfl)) ?_; (try simp only [Act.put, List.setIfInBounds_toArray, List.set_cons_zero, List.set_cons_succ])
      refine next_on 5 (by simp only [List.getElem?_toArray, List.getElem?_cons_succ, List.getElem?_cons_zero]; exact rfl) (by kernel_rfl) (by kernel_rfl) (by kernel_rfl) (by rfl) (fun _ _ _ h => h) hHeld (by intro w hSw; (try dsimp only at hSw); go_simp; (try with_reducible rfl)) ?_; (try simp only [Act.put, List.setIfInBounds_toArray, List.set_cons_zero, List.set_cons_succ])
      refine next_on 6 (by simp only [List.getElem?_toArray, List.getElem?_cons_succ, List.getElem?_cons_zero]; exact rfl) (by kernel_rfl) (by kernel_rfl) (by kernel_rfl) (by rfl) (fun _ _ _ h => h) hHeld (by intro w hSw; (try dsimp only at hSw); go_simp; (try with_reducible rfl)) ?_; (try simp only [Act.put, List.setIfInBounds_toArray, List.set_cons_zero, List.set_cons_succ])
      refine next_on 7 (by simp only [List.getElem?_toArray, List.getElem?_cons_succ, List.getElem?_cons_zero]; exact rfl) (by kernel_rfl) (by kernel_rfl) (by kernel_rfl) (by rfl) (fun _ _ _ h => h) hHeld (by intro w hSw; (try dsimp only at hSw); go_simp; (try with_reducible rfl)) ?_; (try simp only [Act.put, List.setIfInBounds_toArray, List.set_cons_zero, List.set_cons_succ])
      refine next_on 8 (by simp only [List.getElem?_toArray, List.getElem?_cons_succ, List.getElem?_cons_zero]; exact rfl) (by kernel_rfl) (by kernel_rfl) (by kernel_rfl) (by rfl) (fun _ _ _ h => h) hHeld (by intro w hSw; (try dsimp only at hSw); go_simp; (try with_reducible rfl)) ?_; (try simp only [Act.put, List.setIfInBounds_toArray, List.set_cons_zero, List.set_cons_succ])
      refine next_on 9 (by simp only [List.getElem?_toArray, List.getElem?_cons_succ, List.getElem?_cons_zero]; exact rfl) (by kernel_rfl) (by kernel_rfl) (by kernel_rfl) (by rfl) (fun _ _ _ h => h) hHeld (by intro w hSw; (try dsimp only at hSw); go_simp; (try with_reducible rfl)) ?_; (try simp only [Act.put, List.setIfInBounds_toArray, List.set_cons_zero, List.set_cons_succ])
      refine next_on 10 (by simp only [List.getElem?_toArray, List.getElem?_cons_succ, List.getElem?_cons_zero]; exact rfl) (by kernel_rfl) (by kernel_rfl) (by kernel_rfl) (by rfl) (fun _ _ _ h => h) hHeld (by intro w hSw; (try dsimp only at hSw); go_simp; (try with_reducible rfl)) ?_; (try simp only [Act.put, List.setIfInBounds_toArray, List.set_cons_zero, List.set_cons_succ])
      refine next_on 11 (by simp only [List.getElem?_toArray, List.getElem?_cons_succ, List.getElem?_cons_zero]; exact rfl) (by kernel_rfl) (by kernel_rfl) (by kernel_rfl) (by rfl) (fun _ _ _ h => h) hHeld (by intro w hSw; (try dsimp only at hSw); go_simp; (try with_reducible rfl)) ?_; (try simp only [Act.put, List.setIfInBounds_toArray, List.set_cons_zero, List.set_cons_succ])
      refine next_on 12 (by simp only [List.getElem?_toArray, List.getElem?_cons_succ, List.getElem?_cons_zero]; exact rfl) (by kernel_rfl) (by kernel_rfl) (by kernel_rfl) (by rfl) (fun _ _ _ h => h) hHeld (by intro w hSw; (try dsimp only at hSw); go_simp; (try with_reducible rfl)) ?_; (try simp only [Act.put, List.setIfInBounds_toArray, List.set_cons_zero, List.set_cons_succ])
      refine next_on 13 (by simp only [List.getElem?_toArray, List.getElem?_cons_succ, List.getElem?_cons_zero]; exact rfl) (by kernel_rfl) (by kernel_rfl) (by kernel_rfl) (by rfl) (fun _ _ _ h => h) hHeld (by intro w hSw; (try dsimp only at hSw); go_simp; (try with_reducible rfl)) ?_; (try simp only [Act.put, List.setIfInBounds_toArray, List.set_cons_zero, List.set_cons_succ])
      refine next_on 14 (by simp only [List.getElem?_toArray, List.getElem?_cons_succ, List.getElem?_cons_zero]; exact rfl) (by kernel_rfl) (by kernel_rfl) (by kernel_rfl) (by rfl) (fun _ _ _ h => h) hHeld (by intro w hSw; (try dsimp only at hSw); go_simp; (try with_reducible rfl)) ?_; (try simp only [Act.put, List.setIfInBounds_toArray, List.set_cons_zero, List.set_cons_succ])
      refine next_call 15 (by kernel_rfl) (by simp only [List.getElem?_toArray, List.getElem?_cons_succ, List.getElem?_cons_zero]; exact rfl) (by rfl) (fun K hK => ?_)
      go_simp
      refine (timSet_at (HT.out.only (Only.refl [] w).drew (by simp)) _ _).mono ?_
      rintro e w9 ⟨rfl, Ft9, hT9, hO9, hF9⟩
      rw [HTM.out] at hT9 ⊢
      have hO9' := (Only.refl Ft w).drew.trans hO9
      have q1 := hO9'.cell c1 H2.out
      have q3 := hO9'.cell c3 H2.out
      have HT9 := Lib.hid hT9
      have HO9 := Lib.hid hO9'
      have HF9 := Lib.hid hF9
      clear hT9 hO9 hO9' hF9
      (first | go_wp2_with fail | skip)
      refine hK.out _ _ ⟨q1, q3⟩ (fun hHeld => ?_)
      clear hK K
      (try simp only [Act.put, List.setIfInBounds_toArray, List.set_cons_zero, List.set_cons_succ])
      refine next_on 16 (by simp only [List.getElem?_toArray, List.getElem?_cons_succ, List.getElem?_cons_zero]; exact rfl) (by kernel_rfl) (by kernel_rfl) (by kernel_rfl) (by rfl) (fun _ _ _ h => h) hHeld (by intro w hSw; (try dsimp only at hSw); go_simp; (try with_reducible rfl)) ?_; (try simp only [Act.put, List.setIfInBounds_toArray, List.set_cons_zero, List.set_cons_succ])
      refine next_on 17 (by simp only [List.getElem?_toArray, List.getElem?_cons_succ, List.getElem?_cons_zero]; exact rfl) (by kernel_rfl) (by kernel_rfl) (by kernel_rfl) (by rfl) (fun _ _ _ h => h) hHeld (by intro w hSw; (try dsimp only at hSw); go_simp; (try with_reducible rfl)) ?_; (try simp only [Act.put, List.setIfInBounds_toArray, List.set_cons_zero, List.set_cons_succ])
      refine next_on 18 (by simp only [List.getElem?_toArray, List.getElem?_cons_succ, List.getElem?_cons_zero]; exact rfl) (by kernel_rfl) (by kernel_rfl) (by kernel_rfl) (by rfl) (fun _ _ _ h => h) hHeld (by intro w hSw; (try dsimp only at hSw); go_simp; (try with_reducible rfl)) ?_; (try simp only [Act.put, List.setIfInBounds_toArray, List.set_cons_zero, List.set_cons_succ])
      refine reg_end (by kernel_rfl) ?_ _
      go_wp2_with fail
      go_ret2
      have hnew : ∀ b, b < w.heap.size → b ∉ Ft → b ∉ Ft9 := fun b hb hn hm => by
        rcases HF9.out b hm with h | h
        · exact hn h
        · simp at h; omega
      unfold CallPost
      rw [HCC.out]
      refine ⟨rfl, c :: bm :: (P.map Prod.snd ++ Ft9), ⟨HA.out.ok, bm, t, Ft9, P, es, ck, HO9.out.keep HC.out H2.out, HO9.out.keep HB.out H1.out, HMM.out, HP.out, fun q hq => HO9.out.keep (HK.out q hq) (H3.out q hq), HN.out, HT9.out, rfl, hnew _ (lt_of_heap HB.out) H1.out, hnew _ (lt_of_heap HC.out) H2.out, fun q hq => hnew _ (lt_of_heap (HK.out q hq)) (H3.out q hq)⟩, HO9.out.mono (fun i hi => .inl (by simp [hi])), ?_⟩
      intro b hb
      simp only [List.mem_cons, List.mem_append] at hb ⊢
      rcases hb with h | h | h | h
      · exact .inl (.inl h)
      · exact .inl (.inr (.inl h))
      · exact .inl (.inr (.inr (.inl h)))
      · rcases HF9.out b h with h | h
        · exact .inl (.inr (.inr (.inr h)))
        · exact .inr (by simpa using h)
    · have hcc : ccall C tt body now = (⟨C.me, C.next + 1, C.L ++ [⟨C.next, tt, 0, now, body, 1, ByteArray.empty⟩]⟩, C.next, 0) := by
        unfold ccall; rw [if_neg HNOT.out, if_neg HSZ.out, if_neg (by rintro (h1 | h1); exact hend h1; exact hfull h1)]
      have hok := ccall_ok HA.out.ok tt body now
      rw [hcc] at hok
      dsimp only at hok
      have htm := HTM.out
      rw [if_neg hfull] at htm
      have hgn : mget C.next (pent P) = none := by
        rw [pent_get]
        cases hf : pfind C.next P with
        | none => rfl
        | some p =>
          obtain ⟨hp, hpid⟩ := pfind_some hf
          have := (HA.out.ok.ids p.1 (by rw [← HP.out]; exact List.mem_map.2 ⟨p, hp, rfl⟩)).2
          omega
      have HGN := Lib.hid hgn
      have HCC := Lib.hid hcc
      have HOK := Lib.hid hok
      have HTM := Lib.hid htm
      have hnx2 : C.next < 2147483647 := by omega
      clear hcc hend hfull htm hok hgn
      go_enter Try.func12, Try.ntmps12
      go_wp2_with fail
      refine (calMoment_at _ _).mono ?_
      rintro e w1 ⟨rfl, rfl⟩
      rw [HM.out]
      go_wp2_with fail
      refine reg_begin 19 (S := fun w' => w'.cell? ⟨c, 1, none⟩ = some (.int .i64 C.next) ∧ w'.cell? ⟨c, 3, none⟩ = some (.pointer (some ⟨t, 0, none⟩))) (by rfl) (by kernel_rfl) ⟨c1, c3⟩ (fun hHeld => ?_)
      refine next_on 0 (by simp only [List.getElem?_toArray, List.getElem?_cons_succ, List.getElem?_cons_zero]; exact rfl) (by kernel_rfl) (by kernel_rfl) (by kernel_rfl) (by rfl) (fun _ _ _ h => h) hHeld (by intro w hSw; (try dsimp only at hSw); go_simp; (try with_reducible rfl)) ?_; (try simp only [Act.put, List.setIfInBounds_toArray, List.set_cons_zero, List.set_cons_succ])
      refine next_on 1 (by simp only [List.getElem?_toArray, List.getElem?_cons_succ, List.getElem?_cons_zero]; exact rfl) (by kernel_rfl) (by kernel_rfl) (by kernel_rfl) (by rfl) (fun _ _ _ h => h) hHeld (by intro w hSw; (try dsimp only at hSw); go_simp; (try with_reducible rfl)) ?_; (try simp only [Act.put, List.setIfInBounds_toArray, List.set_cons_zero, List.set_cons_succ])
      refine next_on 2 (by simp only [List.getElem?_toArray, List.getElem?_cons_succ, List.getElem?_cons_zero]; exact rfl) (by kernel_rfl) (by kernel_rfl) (by kernel_rfl) (by rfl) (fun _ _ _ h => h) hHeld (by intro w hSw; (try dsimp only at hSw); go_simp; (try with_reducible rfl)) ?_; (try simp only [Act.put, List.setIfInBounds_toArray, List.set_cons_zero, List.set_cons_succ])
      refine next_on 3 (by simp only [List.getElem?_toArray, List.getElem?_cons_succ, List.getElem?_cons_zero]; exact rfl) (by kernel_rfl) (by kernel_rfl) (by kernel_rfl) (by rfl) (fun _ _ _ h => h) hHeld (by intro w hSw; (try dsimp only at hSw); go_simp; (try with_reducible rfl)) ?_; (try simp only [Act.put, List.setIfInBounds_toArray, List.set_cons_zero, List.set_cons_succ])
      refine next_on 4 (by simp only [List.getElem?_toArray, List.getElem?_cons_succ, List.getElem?_cons_zero]; exact rfl) (by kernel_rfl) (by kernel_rfl) (by kernel_rfl) (by rfl) (fun _ _ _ h => h) hHeld (by intro w hSw; (try dsimp only at hSw); go_simp; (try with_reducible rfl)) ?_; (try simp only [Act.put, List.setIfInBounds_toArray, List.set_cons_zero, List.set_cons_succ])
      refine next_on 5 (by simp only [List.getElem?_toArray, List.getElem?_cons_succ, List.getElem?_cons_zero]; exact rfl) (by kernel_rfl) (by kernel_rfl) (by kernel_rfl) (by rfl) (fun _ _ _ h => h) hHeld (by intro w hSw; (try dsimp only at hSw); go_simp; (try with_reducible rfl)) ?_; (try simp only [Act.put, List.setIfInBounds_toArray, List.set_cons_zero, List.set_cons_succ])
      refine next_on 6 (by simp only [List.getElem?_toArray, List.getElem?_cons_succ, List.getElem?_cons_zero]; exact rfl) (by kernel_rfl) (by kernel_rfl) (by kernel_rfl) (by rfl) (fun _ _ _ h => h) hHeld (by intro w hSw; (try dsimp only at hSw); go_simp; (try with_reducible rfl)) ?_; (try simp only [Act.put, List.setIfInBounds_toArray, List.set_cons_zero, List.set_cons_succ])
      refine next_on 7 (by simp only [List.getElem?_toArray, List.getElem?_cons_succ, List.getElem?_cons_zero]; exact rfl) (by kernel_rfl) (by kernel_rfl) (by kernel_rfl) (by rfl) (fun _ _ _ h => h) hHeld (by intro w hSw; (try dsimp only at hSw); go_simp; (try with_reducible rfl)) ?_; (try simp only [Act.put, List.setIfInBounds_toArray, List.set_cons_zero, List.set_cons_succ])
      refine next_on 8 (by simp only [List.getElem?_toArray, List.getElem?_cons_succ, List.getElem?_cons_zero]; exact rfl) (by kernel_rfl) (by kernel_rfl) (by kernel_rfl) (by rfl) (fun _ _ _ h => h) hHeld (by intro w hSw; (try dsimp only at hSw); go_simp; (try with_reducible rfl)) ?_; (try simp only [Act.put, List.setIfInBounds_toArray, List.set_cons_zero, List.set_cons_succ])
      refine next_on 9 (by simp only [List.getElem?_toArray, List.getElem?_cons_succ, List.getElem?_cons_zero]; exact rfl) (by kernel_rfl) (by kernel_rfl) (by kernel_rfl) (by rfl) (fun _ _ _ h => h) hHeld (by intro w hSw; (try dsimp only at hSw); go_simp; (try with_reducible rfl)) ?_; (try simp only [Act.put, List.setIfInBounds_toArray, List.set_cons_zero, List.set_cons_succ])
      refine next_on 10 (by simp only [List.getElem?_toArray, List.getElem?_cons_succ, List.getElem?_cons_zero]; exact rfl) (by kernel_rfl) (by kernel_rfl) (by kernel_rfl) (by rfl) (fun _ _ _ h => h) hHeld (by intro w hSw; (try dsimp only at hSw); go_simp; (try with_reducible rfl)) ?_; (try simp only [Act.put, List.setIfInBounds_toArray, List.set_cons_zero, List.set_cons_succ])
      refine next_on 11 (by simp only [List.getElem?_toArray, List.getElem?_cons_succ, List.getElem?_cons_zero]; exact rfl) (by kernel_rfl) (by kernel_rfl) (by kernel_rfl) (by rfl) (fun _ _ _ h => h) hHeld (by intro w hSw; (try dsimp only at hSw); go_simp; (try with_reducible rfl)) ?_; (try simp only [Act.put, List.setIfInBounds_toArray, List.set_cons_zero, List.set_cons_succ])
      refine next_on 12 (by simp only [List.getElem?_toArray, List.getElem?_cons_succ, List.getElem?_cons_zero]; exact rfl) (by kernel_rfl) (by kernel_rfl) (by kernel_rfl) (by rfl) (fun _ _ _ h => h) hHeld (by intro w hSw; (try dsimp only at hSw); go_simp; (try with_reducible rfl)) ?_; (try simp only [Act.put, List.setIfInBounds_toArray, List.set_cons_zero, List.set_cons_succ])
      refine next_on 13 (by simp only [List.getElem?_toArray, List.getElem?_cons_succ, List.getElem?_cons_zero]; exact rfl) (by kernel_rfl) (by kernel_rfl) (by kernel_rfl) (by rfl) (fun _ _ _ h => h) hHeld (by intro w hSw; (try dsimp only at hSw); go_simp; (try with_reducible rfl)) ?_; (try simp only [Act.put, List.setIfInBounds_toArray, List.set_cons_zero, List.set_cons_succ])
      refine next_on 14 (by simp only [List.getElem?_toArray, List.getElem?_cons_succ, List.getElem?_cons_zero]; exact rfl) (by kernel_rfl) (by kernel_rfl) (by kernel_rfl) (by rfl) (fun _ _ _ h => h) hHeld (by intro w hSw; (try dsimp only at hSw); go_simp; (try with_reducible rfl)) ?_; (try simp only [Act.put, List.setIfInBounds_toArray, List.set_cons_zero, List.set_cons_succ])
      refine next_call 15 (by kernel_rfl) (by simp only [List.getElem?_toArray, List.getElem?_cons_succ, List.getElem?_cons_zero]; exact rfl) (by rfl) (fun K hK => ?_)
      go_simp
      refine (timSet_at (HT.out.only (Only.refl [] w).drew (by simp)) _ _).mono ?_
      rintro e w9 ⟨rfl, Ft9, hT9, hO9, hF9⟩
      rw [HTM.out] at hT9 ⊢
      have hO9' := (Only.refl Ft w).drew.trans hO9
      have q1 := hO9'.cell c1 H2.out
      have q2 := hO9'.cell c2 H2.out
      have q3 := hO9'.cell c3 H2.out
      have qb := hO9'.keep HB.out H1.out
      have HT9 := Lib.hid hT9
      have HO9 := Lib.hid hO9'
      have HF9 := Lib.hid hF9
      clear hT9 hO9 hO9' hF9
      (first | go_wp2_with fail | skip)
      refine hK.out _ _ ⟨q1, q3⟩ (fun hHeld => ?_)
      clear hK K
      (try simp only [Act.put, List.setIfInBounds_toArray, List.set_cons_zero, List.set_cons_succ])
      refine next_on 16 (by simp only [List.getElem?_toArray, List.getElem?_cons_succ, List.getElem?_cons_zero]; exact rfl) (by kernel_rfl) (by kernel_rfl) (by kernel_rfl) (by rfl) (fun _ _ _ h => h) hHeld (by intro w hSw; (try dsimp only at hSw); go_simp; (try with_reducible rfl)) ?_; (try simp only [Act.put, List.setIfInBounds_toArray, List.set_cons_zero, List.set_cons_succ])
      refine next_on 17 (by simp only [List.getElem?_toArray, List.getElem?_cons_succ, List.getElem?_cons_zero]; exact rfl) (by kernel_rfl) (by kernel_rfl) (by kernel_rfl) (by rfl) (fun _ _ _ h => h) hHeld (by intro w hSw; (try dsimp only at hSw); go_simp; (try with_reducible rfl)) ?_; (try simp only [Act.put, List.setIfInBounds_toArray, List.set_cons_zero, List.set_cons_succ])
      refine next_on 18 (by simp only [List.getElem?_toArray, List.getElem?_cons_succ, List.getElem?_cons_zero]; exact rfl) (by kernel_rfl) (by kernel_rfl) (by kernel_rfl) (by rfl) (fun _ _ _ h => h) hHeld (by intro w hSw; (try dsimp only at hSw); go_simp; (try with_reducible rfl)) ?_; (try simp only [Act.put, List.setIfInBounds_toArray, List.set_cons_zero, List.set_cons_succ])
      refine reg_end (by kernel_rfl) ?_ _
      clear c1 c2 c3
      obtain ⟨es', ck', hmu, hM'⟩ := run_mset (P := Try.prog) (b := bm) (v := .pointer (some ⟨w9.heap.size, 0, none⟩)) Try.underlying61 Try.underlying3 HMM.out (k := C.next)
      have HM' := Lib.hid hM'
      have HMU := Lib.hid hmu
      clear hM' hmu
      go_wp2_with fail
      have hOB : Only [] w9 (w9.drew.alloc (.cells #[.int .i64 tt, .int .i64 0, .int .i64 4, .string body, .int .i64 1, .string ByteArray.empty] 73)) := (Only.refl [] w9).drew.alloc _
      have r1 := hOB.cell q1 (by simp)
      have r2 := hOB.cell q2 (by simp)
      have rb := hOB.keep qb (by simp)
      have hcb : c ≠ bm := fun e => by have := HC.out; rw [e, HB.out] at this; simp at this
      have hnz : (w9.drew.alloc (.cells #[.int .i64 tt, .int .i64 0, .int .i64 4, .string body, .int .i64 1, .string ByteArray.empty] 73)).heap[w9.heap.size]? = some (.cells #[.int .i64 tt, .int .i64 0, .int .i64 4, .string body, .int .i64 1, .string ByteArray.empty] 73 (0, 0)) := heap_alloc_at rfl
      have HNZ := Lib.hid hnz
      have HOB := Lib.hid hOB
      have HCB := Lib.hid hcb
      clear hnz hOB hcb
      refine reg_begin 14 (S := fun w' => w'.cell? ⟨c, 2, none⟩ = some (.map (some bm)) ∧ w'.cell? ⟨c, 1, none⟩ = some (.int .i64 C.next)) (by rfl) (by kernel_rfl) ⟨q2, q1⟩ (fun hHeld => ?_)
      refine next_on 0 (by simp only [List.getElem?_toArray, List.getElem?_cons_succ, List.getElem?_cons_zero]; exact rfl) (by kernel_rfl) (by kernel_rfl) (by kernel_rfl) (by rfl) (fun _ _ _ h => h) hHeld (by intro w hSw; (try dsimp only at hSw); go_simp; (try with_reducible rfl)) ?_; (try simp only [Act.put, List.setIfInBounds_toArray, List.set_cons_zero, List.set_cons_succ])
      refine next_on 1 (by simp only [List.getElem?_toArray, List.getElem?_cons_succ, List.getElem?_cons_zero]; exact rfl) (by kernel_rfl) (by kernel_rfl) (by kernel_rfl) (by rfl) (fun _ _ _ h => h) hHeld (by intro w hSw; (try dsimp only at hSw); go_simp; (try with_reducible rfl)) ?_; (try simp only [Act.put, List.setIfInBounds_toArray, List.set_cons_zero, List.set_cons_succ])
      refine next_on 2 (by simp only [List.getElem?_toArray, List.getElem?_cons_succ, List.getElem?_cons_zero]; exact rfl) (by kernel_rfl) (by kernel_rfl) (by kernel_rfl) (by rfl) (fun _ _ _ h => h) hHeld (by intro w hSw; (try dsimp only at hSw); go_simp; (try with_reducible rfl)) ?_; (try simp only [Act.put, List.setIfInBounds_toArray, List.set_cons_zero, List.set_cons_succ])
      refine next_on 3 (by simp only [List.getElem?_toArray, List.getElem?_cons_succ, List.getElem?_cons_zero]; exact rfl) (by kernel_rfl) (by kernel_rfl) (by kernel_rfl) (by rfl) (fun _ _ _ h => h) hHeld (by intro w hSw; (try dsimp only at hSw); go_simp; (try with_reducible rfl)) ?_; (try simp only [Act.put, List.setIfInBounds_toArray, List.set_cons_zero, List.set_cons_succ])
      refine next_on 4 (by simp only [List.getElem?_toArray, List.getElem?_cons_succ, List.getElem?_cons_zero]; exact rfl) (by kernel_rfl) (by kernel_rfl) (by kernel_rfl) (by rfl) (fun _ _ _ h => h) hHeld (by intro w hSw; (try dsimp only at hSw); go_simp; (try with_reducible rfl)) ?_; (try simp only [Act.put, List.setIfInBounds_toArray, List.set_cons_zero, List.set_cons_succ])
      refine next_on 5 (by simp only [List.getElem?_toArray, List.getElem?_cons_succ, List.getElem?_cons_zero]; exact rfl) (by kernel_rfl) (by kernel_rfl) (by kernel_rfl) (by rfl) (fun _ _ _ h => h) hHeld (by intro w hSw; (try dsimp only at hSw); go_simp; (try with_reducible rfl)) ?_; (try simp only [Act.put, List.setIfInBounds_toArray, List.set_cons_zero, List.set_cons_succ])
      refine next_on 6 (by simp only [List.getElem?_toArray, List.getElem?_cons_succ, List.getElem?_cons_zero]; exact rfl) (by kernel_rfl) (by kernel_rfl) (by kernel_rfl) (by rfl) (fun _ _ _ h => h) hHeld (by intro w hSw; (try dsimp only at hSw); go_simp; (try with_reducible rfl)) ?_; (try simp only [Act.put, List.setIfInBounds_toArray, List.set_cons_zero, List.set_cons_succ])
      refine next_on 7 (by simp only [List.getElem?_toArray, List.getElem?_cons_succ, List.getElem?_cons_zero]; exact rfl) (by kernel_rfl) (by kernel_rfl) (by kernel_rfl) (by rfl) (fun _ _ _ h => h) hHeld (by intro w hSw; (try dsimp only at hSw); go_simp; (try with_reducible rfl)) ?_; (try simp only [Act.put, List.setIfInBounds_toArray, List.set_cons_zero, List.set_cons_succ])
      refine next_on 8 (by simp only [List.getElem?_toArray, List.getElem?_cons_succ, List.getElem?_cons_zero]; exact rfl) (by kernel_rfl) (by kernel_rfl) (by kernel_rfl) (by rfl) (fun _ _ _ h => h) hHeld (by intro w hSw; (try dsimp only at hSw); go_simp; (try with_reducible rfl)) ?_; (try simp only [Act.put, List.setIfInBounds_toArray, List.set_cons_zero, List.set_cons_succ])
      refine next_on 9 (by simp only [List.getElem?_toArray, List.getElem?_cons_succ, List.getElem?_cons_zero]; exact rfl) (by kernel_rfl) (by kernel_rfl) (by kernel_rfl) (by rfl) (fun _ _ _ h => h) hHeld (by intro w hSw; (try dsimp only at hSw); go_simp; (try with_reducible rfl)) ?_; (try simp only [Act.put, List.setIfInBounds_toArray, List.set_cons_zero, List.set_cons_succ])
      refine next_on 10 (by simp only [List.getElem?_toArray, List.getElem?_cons_succ, List.getElem?_cons_zero]; exact rfl) (by kernel_rfl) (by kernel_rfl) (by kernel_rfl) (by rfl) (fun _ _ _ h => h) hHeld (by intro w hSw; (try dsimp only at hSw); go_simp; (try with_reducible rfl)) ?_; (try simp only [Act.put, List.setIfInBounds_toArray, List.set_cons_zero, List.set_cons_succ])
      refine next_on 11 (by simp only [List.getElem?_toArray, List.getElem?_cons_succ, List.getElem?_cons_zero]; exact rfl) (by kernel_rfl) (by kernel_rfl) (by kernel_rfl) (by rfl) (fun _ _ _ h => h) hHeld (by intro w hSw; (try dsimp only at hSw); go_simp; (try with_reducible rfl)) ?_; (try simp only [Act.put, List.setIfInBounds_toArray, List.set_cons_zero, List.set_cons_succ])
      refine next_call 12 (by kernel_rfl) (by simp only [List.getElem?_toArray, List.getElem?_cons_succ, List.getElem?_cons_zero]; exact rfl) (by rfl) (fun K hK => ?_)
      go_simp
      (first | go_wp2_with fail | skip)
      refine hK.out _ _ ⟨r2, r1⟩ (fun hHeld => ?_)
      clear hK K
      (try simp only [Act.put, List.setIfInBounds_toArray, List.set_cons_zero, List.set_cons_succ])
      refine next_call 13 (by kernel_rfl) (by simp only [List.getElem?_toArray, List.getElem?_cons_succ, List.getElem?_cons_zero]; exact rfl) (by rfl) (fun K hK => ?_)
      go_simp
      rw [HMU.out]
      rotate_left
      · exact rb
      have hOU : Only [bm] (w9.drew.alloc (.cells #[.int .i64 tt, .int .i64 0, .int .i64 4, .string body, .int .i64 1, .string ByteArray.empty] 73)) (ChangeMaps.setBlock (w9.drew.alloc (.cells #[.int .i64 tt, .int .i64 0, .int .i64 4, .string body, .int .i64 1, .string ByteArray.empty] 73)) bm (.map es' ck')) := (Only.refl [bm] _).setB (.inl (by simp)) _
      have s1 := hOU.cell r1 (by simpa using HCB.out)
      have s2 := hOU.cell r2 (by simpa using HCB.out)
      have HOU := Lib.hid hOU
      clear hOU
      go_simp
      (first | go_wp2_with fail | skip)
      refine hK.out _ _ ⟨s2, s1⟩ (fun hHeld => ?_)
      clear hK K
      (try simp only [Act.put, List.setIfInBounds_toArray, List.set_cons_zero, List.set_cons_succ])
      refine reg_end (by kernel_rfl) ?_ _
      have hOU9 := (HOB.out.mono (G := [bm]) (by simp)).trans HOU.out
      have hcU := HOU.out.keep (HOB.out.keep (HO9.out.keep HC.out H2.out) (by simp)) (by simpa using HCB.out)
      have hnU := HOU.out.keep HNZ.out (by simp; intro e; have := lt_of_heap qb; omega)
      have hbU := setB_same (o := .map es' ck') rb
      obtain ⟨U, hU⟩ : ∃ U, U = ChangeMaps.setBlock ((w9.alloc (.cells #[.int .i64 tt, .int .i64 0, .int .i64 4, .string body, .int .i64 1, .string { data := #[] }] 73)).drew) bm (.map es' ck') := ⟨_, rfl⟩
      rw [← hU]
      have u1 : U.cell? ⟨c, 1, none⟩ = some (.int .i64 C.next) := by rw [hU]; exact s1
      have uf : U.frozen? ⟨c, 1, none⟩ = false := by rw [hU]; exact frozen_at hcU
      have HCU : Hid (U.heap[c]? = some (.cells #[.int .i64 C.me, .int .i64 C.next, .map (some bm), .pointer (some ⟨t, 0, none⟩)] 65 (0, 0))) := Lib.hid (by rw [hU]; exact hcU)
      have HNU : Hid (U.heap[w9.heap.size]? = some (.cells #[.int .i64 tt, .int .i64 0, .int .i64 4, .string body, .int .i64 1, .string ByteArray.empty] 73 (0, 0))) := Lib.hid (by rw [hU]; exact hnU)
      have HBU : Hid (U.heap[bm]? = some (.map es' ck')) := Lib.hid (by rw [hU]; exact hbU)
      have HOU9 : Hid (Only [bm] w9 U) := Lib.hid (by rw [hU]; exact hOU9)
      clear hU hOU9 hcU hnU hbU hHeld s1 s2 r1 r2 rb q1 q2 q3
      go_wp2_with fail
      go_ret2
      have hOV : Only [bm, c] w9 (U.setCell ⟨c, 1, none⟩ (.int .i64 (C.next + 1))) := (HOU9.out.mono (by simp)).setCell (.inl (by simp)) _
      have hOc : Only [c] U (U.setCell ⟨c, 1, none⟩ (.int .i64 (C.next + 1))) := (Only.refl [c] U).setCell (.inl (by simp)) _
      have hcV := heap_store (o := 1) (u := .int .i64 (C.next + 1)) HCU.out
      have hc9 := lt_of_heap qb
      have hsz := HO9.out.size
      have hlc := lt_of_heap HC.out
      have hnc : w9.heap.size ≠ c := by omega
      have hkc : ∀ q ∈ P, q.2 ≠ c := fun q hq e => by have := HK.out q hq; rw [e, HC.out] at this; simp [Kc.cells] at this
      have hkb : ∀ q ∈ P, q.2 ≠ bm := fun q hq e => by have := HK.out q hq; rw [e, HB.out] at this; simp at this
      have hnew : ∀ b, b < w.heap.size → b ∉ Ft → b ∉ Ft9 := fun b hb hn hm => by
        rcases HF9.out b hm with h | h
        · exact hn h
        · simp at h; omega
      have hM2 := HM'.out
      rw [mset_none _ _ HGN.out] at hM2
      unfold CallPost
      rw [HCC.out]
      refine ⟨rfl, c :: bm :: ((P ++ [((⟨C.next, tt, 0, now, body, 1, ByteArray.empty⟩ : Kc), w9.heap.size)]).map Prod.snd ++ Ft9), ⟨HOK.out, bm, t, Ft9, P ++ [((⟨C.next, tt, 0, now, body, 1, ByteArray.empty⟩ : Kc), w9.heap.size)], es', ck', hcV, hOc.keep HBU.out (by simpa using fun e => HCB.out e.symm), by simpa [pent] using hM2, by simp [HP.out], ?_, ?_, HT9.out.only hOV ?_, rfl, hnew _ (lt_of_heap HB.out) H1.out, hnew _ hlc H2.out, ?_⟩, ?_, ?_⟩
      · intro q hq
        rcases List.mem_append.1 hq with hq | hq
        · exact hOV.keep (HO9.out.keep (HK.out q hq) (H3.out q hq)) (by simp; exact ⟨hkb q hq, hkc q hq⟩)
        · simp at hq; subst hq
          exact hOc.keep HNU.out (by simpa using hnc)
      · rw [List.map_append, List.nodup_append]
        refine ⟨HN.out, by simp, fun a ha b hb => ?_⟩
        simp at hb; subst hb
        obtain ⟨q, hq, rfl⟩ := List.mem_map.1 ha
        have := lt_of_heap (HK.out q hq)
        omega
      · intro b hb
        simp
        refine ⟨?_, ?_⟩
        · rintro rfl; exact hnew _ (lt_of_heap HB.out) H1.out hb
        · rintro rfl; exact hnew _ hlc H2.out hb
      · intro q hq
        rcases List.mem_append.1 hq with hq | hq
        · exact hnew _ (lt_of_heap (HK.out q hq)) (H3.out q hq)
        · simp at hq; subst hq
          intro hm
          have := HT9.out.lt _ hm
          dsimp only at this; omega
      · refine (HO9.out.mono (fun i hi => .inl (by simp [hi]))).call hOV ?_
        intro i hi
        simp at hi
        rcases hi with rfl | rfl <;> exact .inl (by simp)
      · intro b hb
        simp only [List.mem_cons, List.mem_append, List.map_append] at hb ⊢
        rcases hb with h | h | (h | h) | h
        · exact .inl (.inl h)
        · exact .inl (.inr (.inl h))
        · exact .inl (.inr (.inr (.inl h)))
        · simp at h; subst h; exact .inr hsz
        · rcases HF9.out b h with h | h
          · exact .inl (.inr (.inr (.inr h)))
          · exact .inr (by simpa using h)
end Go.Proofs.Ytllfehahjkbhiaa
