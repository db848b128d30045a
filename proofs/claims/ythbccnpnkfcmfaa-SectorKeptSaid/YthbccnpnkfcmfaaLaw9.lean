/- The statements' own small functions: a sector of one byte; few deeds; the example. -/
import Derived.Test.YthbccnpnkfcmfaaSecNew
import Derived.Test.YthbccnpnkfcmfaaInts
namespace Go.Proofs.Ythbccnpnkfcmfaa
open Go.RowKit Go.Lib
set_option linter.unusedSimpArgs false
set_option linter.unusedVariables false
/-- A sector of one byte. -/
def ofI (n : Int) : ByteArray := ⟨Array.replicate 64 (UInt8.ofNat n.toNat)⟩
theorem ofI_size (n : Int) : (ofI n).size = 64 := by simp [ofI, ByteArray.size]
theorem ofI_cells {n : Int} (h0 : 0 ≤ n) (h1 : n ≤ 255) : strCells (ofI n) = List.replicate 64 (.int .u8 n) := by
  simp [strCells, ofI]
  omega
theorem rep_step {α : Type} (l : List α) (k : Nat) (z : α) (h : l = List.replicate k z ++ l.drop k) (hk : k < l.length) : l.set k z = List.replicate (k + 1) z ++ (l.set k z).drop (k + 1) := by
  conv => lhs; rw [h]
  rw [List.set_append_right _ _ (by simp)]
  simp only [List.length_replicate, Nat.sub_self]
  rw [List.drop_eq_getElem_cons hk, List.set_cons_zero, List.replicate_succ', List.append_assoc, List.drop_set_of_lt (by omega)]
  rfl
set_option maxHeartbeats 1000000 in
theorem of_at (w : World) (n : Int) (h0 : 0 ≤ n) (h1 : n ≤ 255) :
    Calls Try.prog 16 #[.int .u8 n] w fun e w' => e = .returned (.string (ofI n)) ∧ Only [] w w' := by
  obtain ⟨i5, hi5, hz5, hs5, hb5⟩ := info_parts info5
  have hmk := run_make (P := Try.prog) w 48 _ i5 _ Try.underlying48 hi5 hz5 .i64 .i64 64 64 (by decide) (by decide) (by rw [hb5]; decide) (by decide)
  rw [hs5] at hmk
  simp only [Value.cells, show (64 : Int).toNat = 64 from rfl, Nat.mul_one] at hmk
  have hown := World.ownsRow_lit (base := w.heap.size) (size := 1) (e := 5) w (madeCells #[Value.int .u8 0] 64) 64 (Nat.le_refl _) (by unfold maxLen; omega) (by rw [size_madeCells])
  have hO1 : Only [] w (w.alloc (.cells (madeCells #[Value.int .u8 0] 64) 5)) := (Only.refl _ _).alloc _
  rw [toList_madeCells_one] at hown
  generalize hW : w.alloc (.cells (madeCells #[Value.int .u8 0] 64) 5) = W at *
  clear hW hi5 hz5 hs5 hb5
  go_enter Try.func16, Try.ntmps16
  go_wp2_with fail
  go_loopw [4] (fun v wr => ∃ (k : Nat) (l : List Value), k ≤ 64 ∧ v = .int .i64 k ∧ l.length = 64 ∧ l = List.replicate k (.int .u8 n) ++ l.drop k ∧ wr.ownsRow w.heap.size 5 1 (.slice (some ⟨w.heap.size, 0, none⟩) 64 64) 64 l ∧ Only [] w wr) (fun v _ => 64 - (intOf v).toNat)
  case atStart => exact ⟨0, _, by omega, rfl, by simp, by simp, hown, hO1⟩
  case round =>
    obtain ⟨k, l, hk, rfl, hl, hrep, hown2, hO⟩ := hrel
    by_cases hlt : k < 64
    · have hcell : ∃ u, wr.cell? ⟨w.heap.size, k, none⟩ = some u := ⟨_, (hown2.cellAt k (by omega)).trans (List.getElem?_eq_getElem (show k < l.length by omega))⟩
      obtain ⟨u, hu⟩ := hcell
      have hf : wr.frozen? ⟨w.heap.size, k, none⟩ = false := hown2.frozenAt k
      have HO := Lib.hid hown2
      have HR := Lib.hid hrep
      have HL := Lib.hid hl
      clear hown2 hrep hl hmk hown
      go_wp2_with fail
      obtain ⟨h3, h4⟩ := HO.out.stored k (.int .u8 n)
      exact ⟨⟨k + 1, l.set k (.int .u8 n), by omega, by go_num, by simpa using HL.out, rep_step l k _ HR.out (by rw [HL.out]; exact hlt), h3, hO.grown h4 (by simp)⟩, by simp [intOf]; omega⟩
    · have : k = 64 := by omega
      subst this
      have hfull : l = strCells (ofI n) := by rw [hrep, List.drop_of_length_le (by omega), ofI_cells h0 h1]; simp
      rw [hfull] at hown2
      have hcv := run_string_own (P := Try.prog) (dst := 9) Try.underlying48 Try.underlying5 Try.underlying9 hown2
      clear hfull hrep hl hmk hown hown2
      go_wp2_with fail
      go_ret
      exact ⟨rfl, hO⟩
theorem aw1 : (Dev.new 3).write 0 (ofI 97 ++ ofI 98) = (⟨[ofI 97, ofI 98, zero64], [some zero64, some zero64, none], false⟩, 0) := by kernel_rfl
theorem aw2 : (Dev.mk [ofI 97, ofI 98, zero64] [some zero64, some zero64, none] false).loose = [0, 1] := by kernel_rfl
theorem aw3 : (Dev.mk [ofI 97, ofI 98, zero64] [some zero64, some zero64, none] false).crash 2 0 = ⟨[zero64, ofI 98, zero64], [none, none, none], false⟩ := by kernel_rfl
theorem aw4 : (Dev.mk [zero64, ofI 98, zero64] [none, none, none] false).read 0 3 = (ofI 0 ++ ofI 98 ++ ofI 0, 0) := by kernel_rfl
theorem aw5 : (Dev.mk [zero64, ofI 98, zero64] [none, none, none] false).write 2 (ofI 99 ++ ofI 100) = (⟨[zero64, ofI 98, zero64], [none, none, none], false⟩, 5) := by kernel_rfl
theorem aw6 : (Dev.mk [zero64, ofI 98, zero64] [none, none, none] false).write 0 ⟨#[120]⟩ = (⟨[zero64, ofI 98, zero64], [none, none, none], false⟩, 1) := by kernel_rfl
theorem aw7 : (Dev.mk [zero64, ofI 98, zero64] [none, none, none] false).lose = ⟨[zero64, ofI 98, zero64], [none, none, none], true⟩ := by kernel_rfl
theorem aw8 : (Dev.mk [zero64, ofI 98, zero64] [none, none, none] true).read 0 1 = (⟨#[]⟩, 8) := by kernel_rfl
theorem DevAt.only {w w' : World} {d bn bm : Nat} {D : Dev} (h : DevAt w d bn bm D) {F : List Nat} (hO : Only F w w') (h1 : d ∉ F) (h2 : bn ∉ F) (h3 : bm ∉ F) : DevAt w' d bn bm D :=
  h.keep (hO.block _ (lt_of_heap h.hd) h1) (hO.block _ (lt_of_heap h.hn) h2) (by obtain ⟨_, _, _, hb, _⟩ := h.hm; exact hO.block _ (lt_of_heap hb) h3)
set_option maxHeartbeats 4000000 in
set_option maxRecDepth 100000 in
theorem awake_at (w : World) : Calls Try.prog 8 #[] w fun e w' => e = .returned (.bool true) ∧ Only [] w w' := by
  go_enter Try.func8, Try.ntmps8
  go_wp2_with fail
  refine (new_at _ _).mono ?_
  rintro e w1 ⟨d, bn, bm, rfl, hD1, hO1, hd, hbn, hbm⟩
  have HD1 := Lib.hid hD1
  have HO1 := Lib.hid hO1
  clear hD1 hO1
  go_wp2_with fail
  refine (of_at _ _ (by decide) (by decide)).mono ?_
  rintro e w2 ⟨rfl, hO2⟩
  have HO2 := Lib.hid hO2
  clear hO2
  go_wp2_with fail
  refine (of_at _ _ (by decide) (by decide)).mono ?_
  rintro e w3 ⟨rfl, hO3⟩
  have HO3 := Lib.hid hO3
  clear hO3
  go_wp2_with fail
  have HDa := Lib.hid ((HD1.out.only HO2.out (by simp) (by simp) (by simp)).only HO3.out (by simp) (by simp) (by simp))
  refine (write_at HDa.out _ _ (by unfold maxLen; simp [ByteArray.size_append, ofI_size])).mono ?_
  rintro e w4 ⟨rfl, hD4, hO4⟩
  rw [aw1] at hD4 ⊢
  have HD4 := Lib.hid hD4
  have HO4 := Lib.hid ((((HO1.out.trans HO2.out).trans HO3.out).call hO4 (by simp [hbn, hbm])))
  clear hD4 hO4
  go_wp2_with fail
  refine (loose_at HD4.out).mono ?_
  rintro e w5 ⟨v, rfl, hown, hO5⟩
  rw [aw2] at hown
  obtain ⟨a, cap, rfl, hints, hbase⟩ := ints_own hown
  have HI5 := Lib.hid hints
  have HBS := Lib.hid hbase
  have hbn4 := lt_of_heap HD4.out.hn
  have hd4 := lt_of_heap HD4.out.hd
  have hbm4 : bm < w4.heap.size := by obtain ⟨_, _, _, hb, _⟩ := HD4.out.hm; exact lt_of_heap hb
  clear hbase
  have HO5 := Lib.hid hO5
  have HD5 := Lib.hid (HD4.out.only hO5 (by simp) (by simp) (by simp))
  clear hints hO5 hown
  go_wp2_with fail
  refine (crash_at HD5.out _ _ (by decide) (by decide)).mono ?_
  rintro e w6 ⟨rfl, hD6, hO6⟩
  rw [aw3] at hD6
  have HD6 := Lib.hid hD6
  have HO6 := Lib.hid hO6
  clear hD6 hO6
  go_wp2_with fail
  refine (read_at HD6.out _ _).mono ?_
  rintro e w7 ⟨rfl, hO7⟩
  have e4 := aw4
  rw [e4]
  have HO7 := Lib.hid hO7
  clear hO7 e4
  go_wp2_with fail
  refine (of_at _ _ (by decide) (by decide)).mono ?_
  rintro e w8 ⟨rfl, hO8⟩
  have HO8 := Lib.hid hO8
  clear hO8
  go_wp2_with fail
  refine (of_at _ _ (by decide) (by decide)).mono ?_
  rintro e w9 ⟨rfl, hO9⟩
  have HO9 := Lib.hid hO9
  clear hO9
  go_wp2_with fail
  have HD9 := Lib.hid (((HD6.out.only HO7.out (by simp) (by simp) (by simp)).only HO8.out (by simp) (by simp) (by simp)).only HO9.out (by simp) (by simp) (by simp))
  refine (write_at HD9.out _ _ (by unfold maxLen; simp [ByteArray.size_append, ofI_size])).mono ?_
  rintro e w10 ⟨rfl, hD10, hO10⟩
  rw [aw5] at hD10 ⊢
  have HD10 := Lib.hid hD10
  have HO10 := Lib.hid hO10
  clear hD10 hO10
  go_wp2_with fail
  refine (write_at HD10.out _ _ (by unfold maxLen; decide)).mono ?_
  rintro e w11 ⟨rfl, hD11, hO11⟩
  rw [aw6] at hD11 ⊢
  have HD11 := Lib.hid hD11
  have HO11 := Lib.hid hO11
  clear hD11 hO11
  go_wp2_with fail
  refine (lose_at HD11.out).mono ?_
  rintro e w12 ⟨rfl, hD12, hO12⟩
  rw [aw7] at hD12
  have HD12 := Lib.hid hD12
  have HO12 := Lib.hid hO12
  clear hD12 hO12
  go_wp2_with fail
  refine (read_at HD12.out _ _).mono ?_
  rintro e w13 ⟨rfl, hO13⟩
  rw [aw8]
  have HO13 := Lib.hid hO13
  clear hO13
  go_wp2_with fail
  have hfar : ∀ b o, a = some ⟨b, o, none⟩ → b ∉ [bn, bm] := fun b o e => by
    have := HBS.out b o e
    simp; omega
  have hfar2 : ∀ b o, a = some ⟨b, o, none⟩ → b ∉ [d, bm] := fun b o e => by
    have := HBS.out b o e
    simp; omega
  have HIZ := Lib.hid ((((((((((HI5.out.only HO6.out hfar).keep HO7.out).keep HO8.out).keep HO9.out).only HO10.out hfar).only HO11.out hfar).only HO12.out hfar2).keep HO13.out).keep ((Only.refl [] _).alloc (.cells #[.int .i64 0, .int .i64 1] 3))))
  have HJ : Hid (IntsAt (w13.alloc (.cells #[.int .i64 0, .int .i64 1] 3)) (some ⟨w13.heap.size, 0, none⟩) [0, 1]) := Lib.hid (fun i x hx => ⟨w13.heap.size, 0, rfl, by
    rw [Nat.zero_add, World.cell?_alloc_new]
    match i, hx with
    | 0, hx => simp at hx; subst hx; rfl
    | 1, hx => simp at hx; subst hx; rfl⟩)
  have HALL : Hid (Only [] w w13) := Lib.hid (((((((((HO4.out.trans HO5.out).call HO6.out (by simp [hbn, hbm])).trans HO7.out).trans HO8.out).trans HO9.out).call HO10.out (by simp [hbn, hbm])).call HO11.out (by simp [hbn, hbm])).call HO12.out (by simp [hd, hbm])).trans HO13.out)
  have HD13 := Lib.hid (HD12.out.only HO13.out (by simp) (by simp) (by simp))
  clear hfar hfar2
  refine (ints_at (l := [0, 1]) (m := [0, 1]) HIZ.out HJ.out (by decide)).mono ?_
  rintro e w14 ⟨rfl, hO14⟩
  have HO14 := Lib.hid hO14
  have HD14 := Lib.hid ((HD13.out.only ((Only.refl [] _).alloc (.cells #[.int .i64 0, .int .i64 1] 3)) (by simp) (by simp) (by simp)).only hO14 (by simp) (by simp) (by simp))
  have HALL14 := Lib.hid ((HALL.out.alloc (.cells #[.int .i64 0, .int .i64 1] 3)).trans hO14)
  rw [decide_eq_true rfl]
  clear hO14
  go_wp2_with fail
  refine (of_at _ _ (by decide) (by decide)).mono ?_
  rintro e w15 ⟨rfl, hO15⟩
  have HO15 := Lib.hid hO15
  clear hO15
  go_wp2_with fail
  refine (of_at _ _ (by decide) (by decide)).mono ?_
  rintro e w16 ⟨rfl, hO16⟩
  have HO16 := Lib.hid hO16
  clear hO16
  go_wp2_with fail
  refine (of_at _ _ (by decide) (by decide)).mono ?_
  rintro e w17 ⟨rfl, hO17⟩
  have HO17 := Lib.hid hO17
  clear hO17
  go_wp2_with fail
  have HD17 := Lib.hid (((HD14.out.only HO15.out (by simp) (by simp) (by simp)).only HO16.out (by simp) (by simp) (by simp)).only HO17.out (by simp) (by simp) (by simp))
  refine (sectors_at HD17.out).mono ?_
  rintro e w18 ⟨rfl, rfl⟩
  go_wp2_with fail
  go_ret
  exact ⟨rfl, ((HALL14.out.trans HO15.out).trans HO16.out).trans HO17.out⟩
end Go.Proofs.Ythbccnpnkfcmfaa
