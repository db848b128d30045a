/- SectorTorn: a sector that is torn begins as it was written last, and ends as it was flushed. -/
import Derived.Test.YthbccnpnkfcmfaaLaw9
import Derived.Deep.RegionWith
import Derived.Deep.RegionHeld3
import Derived.BigGuard
namespace Go.Proofs.Ythbccnpnkfcmfaa
open Go.RowKit Go.Lib
set_option linter.unusedSimpArgs false
set_option linter.unusedVariables false
theorem extract_full {s : ByteArray} {n : Nat} (h : s.size = n) : s.extract 0 n = s := by subst h; exact ByteArray.extract_zero_size
theorem new_one : Dev.new 1 = ⟨[zero64], [none], false⟩ := by kernel_rfl
theorem write_one (x : ByteArray) (o : Option ByteArray) (s : ByteArray) (h : s.size = 64) : (Dev.mk [x] [o] false).write 0 s = (⟨[s], [some (o.getD x)], false⟩, 0) := by
  unfold Dev.write
  rw [h]
  cases o <;> simp [Dev.check, Dev.puts, Dev.put, extract_full h]
theorem flush_one (x : ByteArray) (o : Option ByteArray) : (Dev.mk [x] [o] false).flush = ⟨[x], [none], false⟩ := rfl
theorem read_one (x : ByteArray) (o : Option ByteArray) : (Dev.mk [x] [o] false).read 0 1 = (x, 0) := by
  unfold Dev.read
  simp [Dev.check, cat, app_nil]
/-- The cut of a torn sector. -/
def tornAt (tear : Int) : Nat := if 0 < tear ∧ tear < 64 then tear.toNat else 0
theorem crash_one (x y : ByteArray) (tear : Int) (hx : x.size = 64) (hy : y.size = 64) : (Dev.mk [x] [some y] false).crash 0 tear = ⟨[x.extract 0 (tornAt tear) ++ y.extract (tornAt tear) 64], [none], false⟩ := by
  have hl : (Dev.mk [x] [some y] false).loose = [0] := rfl
  have hk : keeps 0 0 = false := by simp [keeps]
  unfold Dev.crash
  rw [hl, Dev.fall_cons]
  unfold Dev.drop1
  rw [hk]
  unfold tornAt
  by_cases h : 0 < tear ∧ tear < 64
  · rw [if_pos h, decide_eq_false (by omega)]
    simp [Dev.fall, Dev.flush]
  · rw [if_neg h, decide_eq_true (by omega)]
    simp [Dev.fall, Dev.flush]
    rw [extract_full hy]
theorem torn_model (a b tear : Int) : ((((Dev.new 1).write 0 (ofI a)).1.flush.write 0 (ofI b)).1.crash 0 tear).read 0 1 = ((ofI b).extract 0 (tornAt tear) ++ (ofI a).extract (tornAt tear) 64, 0) := by
  rw [new_one, write_one _ _ _ (ofI_size a), flush_one, write_one _ _ _ (ofI_size b)]
  show ((Dev.mk [ofI b] [some (ofI a)] false).crash 0 tear).read 0 1 = _
  rw [crash_one _ _ _ (ofI_size b) (ofI_size a), read_one]
set_option maxHeartbeats 4000000 in
set_option maxRecDepth 100000 in
theorem sectorTorn_at (w : World) (a b tear : Int) (ha : (Lit.int .u8 a).wf = true) (hb : (Lit.int .u8 b).wf = true) (ht : (Lit.int .i64 tear).wf = true) :
    Calls Try.prog 5 #[.int .u8 a, .int .u8 b, .int .i64 tear] w fun e w' => e = .returned (.bool true) ∧ Only [] w w' := by
  have ha2 : 0 ≤ a ∧ a ≤ 255 := by simp [Lit.wf, IntKind.min, IntKind.max, IntKind.signed, IntKind.bits] at ha; omega
  have hb2 : 0 ≤ b ∧ b ≤ 255 := by simp [Lit.wf, IntKind.min, IntKind.max, IntKind.signed, IntKind.bits] at hb; omega
  have hm := torn_model a b tear
  have HM := Lib.hid hm
  clear ha hb ht hm
  obtain ⟨ha0, ha1⟩ := ha2
  obtain ⟨hb0, hb1⟩ := hb2
  go_enter Try.func5, Try.ntmps5
  go_wp2_with fail
  refine (new_at _ _).mono ?_
  rintro e w1 ⟨d, bn, bm, rfl, hD1, hO1, hd, hbn, hbm⟩
  have HD1 := Lib.hid hD1
  have HO1 := Lib.hid hO1
  clear hD1 hO1
  go_wp2_with fail
  refine (of_at _ _ ha0 ha1).mono ?_
  rintro e w2 ⟨rfl, hO2⟩
  have HD2 := Lib.hid (HD1.out.only hO2 (by simp) (by simp) (by simp))
  have HO2 := Lib.hid (HO1.out.trans hO2)
  clear hO2
  go_wp2_with fail
  refine (write_at HD2.out _ _ (by unfold maxLen; simp [ofI_size])).mono ?_
  rintro e w3 ⟨rfl, hD3, hO3⟩
  have HD3 := Lib.hid hD3
  have HO3 := Lib.hid (HO2.out.call hO3 (by simp [hbn, hbm]))
  clear hD3 hO3
  generalize hX : (Dev.new 1).write 0 (ofI a) = X at *
  clear hX
  go_wp2_with fail
  refine (flush_at HD3.out).mono ?_
  rintro e w4 ⟨rfl, hD4, hO4⟩
  have HD4 := Lib.hid hD4
  have HO4 := Lib.hid (HO3.out.call hO4 (by simp [hbm]))
  clear hD4 hO4
  go_wp2_with fail
  refine (of_at _ _ hb0 hb1).mono ?_
  rintro e w5 ⟨rfl, hO5⟩
  have HD5 := Lib.hid (HD4.out.only hO5 (by simp) (by simp) (by simp))
  have HO5 := Lib.hid (HO4.out.trans hO5)
  clear hO5
  go_wp2_with fail
  refine (write_at HD5.out _ _ (by unfold maxLen; simp [ofI_size])).mono ?_
  rintro e w6 ⟨rfl, hD6, hO6⟩
  have HD6 := Lib.hid hD6
  have HO6 := Lib.hid (HO5.out.call hO6 (by simp [hbn, hbm]))
  clear hD6 hO6
  go_wp2_with fail
  refine (crash_at HD6.out _ _ (by decide) (by decide)).mono ?_
  rintro e w7 ⟨rfl, hD7, hO7⟩
  have HD7 := Lib.hid hD7
  have HO7 := Lib.hid (HO6.out.call hO7 (by simp [hbn, hbm]))
  clear hD7 hO7
  go_wp2_with fail
  refine (read_at HD7.out _ _).mono ?_
  rintro e w8 ⟨rfl, hO8⟩
  rw [HM.out]
  have HO8 := Lib.hid (HO7.out.trans hO8)
  clear hO8
  have hofa := fun w => of_at w a ha0 ha1
  have hofb := fun w => of_at w b hb0 hb1
  have hAs := ofI_size a
  have hBs := ofI_size b
  generalize ofI a = A at *
  generalize ofI b = B at *
  have HOA := Lib.hid hofa
  have HOB := Lib.hid hofb
  clear hofa hofb HM HD1 HD2 HD3 HD4 HD5 HD6 HD7 HO1 HO2 HO3 HO4 HO5 HO6 HO7
  by_cases h1 : 0 < tear
  · have ht1 : decide (0 < tear) = true := decide_eq_true h1
    by_cases h2 : tear < 64
    · have ht2 : decide (tear < 64) = true := decide_eq_true h2
      have e1 : tornAt tear = tear.toNat := by unfold tornAt; rw [if_pos ⟨h1, h2⟩]
      rw [e1]
      clear e1
      have hp0 : (0 : Int) ≤ tear := by omega
      have hp1 : tear ≤ 64 := by omega
      have hcat : ∀ wx, (Op.stringOp .add (B.extract 0 tear.toNat) (A.extract tear.toNat 64)).run Try.prog wx = .ok (.string (B.extract 0 tear.toNat ++ A.extract tear.toNat 64)) wx := fun wx => run_string_add_sum wx _ _ (by simp [ByteArray.size_extract]; omega)
      go_wp2_with fail
      go_region_held3 (fun w' => Only [] w w') (first | exact HO8.out | exact HO8.out.drew | exact hOx | exact hOy | exact hOz) ((first | (go_at_call_of 16 (Value.int .u8 b); refine (HOB.out _).mono ?_; rintro e w' ⟨rfl, hOx0⟩; have hOx := HO8.out.drew.trans hOx0) | (go_at_call_of 16 (Value.int .u8 a); refine (HOA.out _).mono ?_; rintro e w' ⟨rfl, hOy0⟩; have hOy := hOx.trans hOy0) | (go_at_call 8; refine (awake_at _).mono ?_; rintro e w' ⟨rfl, hOz0⟩; have hOz := hOy.trans hOz0)))
      go_wp2_with fail
      go_ret
      exact ⟨rfl, hOz⟩
    · have ht2 : decide (tear < 64) = false := decide_eq_false h2
      have e1 : tornAt tear = 0 := by unfold tornAt; rw [if_neg (by omega)]
      have e2 : B.extract 0 (tornAt tear) ++ A.extract (tornAt tear) 64 = A := by rw [e1, extract_full hAs]; simp [nil_app]
      rw [e2]
      clear e1 e2
      have e6 : A.extract 0 64 = A := extract_full hAs
      have e7 : B.extract 0 0 = ⟨#[]⟩ := by simp; rfl
      have e8 : (⟨#[]⟩ : ByteArray) ++ A = A := nil_app A
      go_wp2_with fail
      go_region_held3 (fun w' => Only [] w w') (first | exact HO8.out | exact HO8.out.drew | exact hOx | exact hOy | exact hOz) ((first | (go_at_call_of 16 (Value.int .u8 b); refine (HOB.out _).mono ?_; rintro e w' ⟨rfl, hOx0⟩; have hOx := HO8.out.drew.trans hOx0) | (go_at_call_of 16 (Value.int .u8 a); refine (HOA.out _).mono ?_; rintro e w' ⟨rfl, hOy0⟩; have hOy := hOx.trans hOy0) | (go_at_call 8; refine (awake_at _).mono ?_; rintro e w' ⟨rfl, hOz0⟩; have hOz := hOy.trans hOz0)))
      go_wp2_with fail
      go_ret
      exact ⟨rfl, hOz⟩
  · have ht1 : decide (0 < tear) = false := decide_eq_false h1
    have e1 : tornAt tear = 0 := by unfold tornAt; rw [if_neg (by omega)]
    have e2 : B.extract 0 (tornAt tear) ++ A.extract (tornAt tear) 64 = A := by rw [e1, extract_full hAs]; simp [nil_app]
    rw [e2]
    clear e1 e2
    have e6 : A.extract 0 64 = A := extract_full hAs
    have e7 : B.extract 0 0 = ⟨#[]⟩ := by simp; rfl
    have e8 : (⟨#[]⟩ : ByteArray) ++ A = A := nil_app A
    go_wp2_with fail
    go_region_held3 (fun w' => Only [] w w') (first | exact HO8.out | exact HO8.out.drew | exact hOx | exact hOy | exact hOz) ((first | (go_at_call_of 16 (Value.int .u8 b); refine (HOB.out _).mono ?_; rintro e w' ⟨rfl, hOx0⟩; have hOx := HO8.out.drew.trans hOx0) | (go_at_call_of 16 (Value.int .u8 a); refine (HOA.out _).mono ?_; rintro e w' ⟨rfl, hOy0⟩; have hOy := hOx.trans hOy0) | (go_at_call 8; refine (awake_at _).mono ?_; rintro e w' ⟨rfl, hOz0⟩; have hOz := hOy.trans hOz0)))
    go_wp2_with fail
    go_ret
    exact ⟨rfl, hOz⟩
end Go.Proofs.Ythbccnpnkfcmfaa
