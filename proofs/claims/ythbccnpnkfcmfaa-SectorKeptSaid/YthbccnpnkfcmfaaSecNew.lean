/- New: a device of bytes 0. -/
import Derived.Test.YthbccnpnkfcmfaaSecCrash
namespace Go.Proofs.Ythbccnpnkfcmfaa
open Go.RowKit Go.Lib
set_option linter.unusedSimpArgs false
set_option linter.unusedVariables false
theorem zero64_cells : strCells zero64 = (madeCells #[Value.int .u8 0] 64).toList := by
  rw [toList_madeCells_one]
  simp [strCells, zero64]
theorem range_step (l : List ByteArray) (k : Nat) (z : ByteArray) (h : l = List.replicate k z ++ l.drop k) (hk : k < l.length) : l.set k z = List.replicate (k + 1) z ++ (l.set k z).drop (k + 1) := by
  conv => lhs; rw [h]
  rw [List.set_append_right _ _ (by simp)]
  simp only [List.length_replicate, Nat.sub_self]
  rw [List.drop_eq_getElem_cons hk, List.set_cons_zero, List.replicate_succ', List.append_assoc, List.drop_set_of_lt (by omega)]
  rfl
set_option maxHeartbeats 4000000 in
theorem new_at (w : World) (n : Int) :
    Calls Try.prog 9 #[.int .i64 n] w fun e w' => ∃ d bn bm, e = .returned (.pointer (some ⟨d, 0, none⟩)) ∧ DevAt w' d bn bm (Dev.new n) ∧ Only [] w w' ∧ w.heap.size ≤ d ∧ w.heap.size ≤ bn ∧ w.heap.size ≤ bm := by
  have hmm := @run_makeMap Try.prog
  obtain ⟨i5, hi5, hz5, hs5, hb5⟩ := info_parts info5
  obtain ⟨i9, hi9, hz9, hs9, hb9⟩ := info_parts info9
  obtain ⟨m, hm⟩ : ∃ m : Nat, min (max n 1) 4096 = (m : Int) := Int.eq_ofNat_of_zero_le (by omega)
  have hm1 : 1 ≤ m := by omega
  have hm2 : m ≤ 4096 := by omega
  have hdev : Dev.new n = ⟨List.replicate m zero64, List.replicate m none, false⟩ := by unfold Dev.new; rw [hm]; rfl
  have hmk := run_make (P := Try.prog) (w.alloc (.map #[] 0)) 45 _ i9 _ Try.underlying45 hi9 hz9 .i64 .i64 (min (max n 1) 4096) (min (max n 1) 4096) (by omega) (Int.le_refl _) (by rw [hb9]; omega) (by omega)
  rw [show (min (max n 1) 4096).toNat = m by omega, hs9, Nat.mul_one] at hmk
  have HM := Lib.hid hm
  have HDEV := Lib.hid hdev
  clear hm hdev
  rw [HDEV.out]
  go_enter Try.func9, Try.ntmps9
  go_upto_region 2 with (fail)
  have hd : (((w.alloc (.map #[] 0)).alloc (.cells (madeCells #[Value.string ⟨#[]⟩] m) 9)).alloc (.cells #[.slice (some ⟨w.heap.size + 1, 0, none⟩) m m, .map (some w.heap.size), .bool false] 47)).heap[w.heap.size + 2]? =
      some (.cells #[.slice (some ⟨w.heap.size + 1, 0, none⟩) m m, .map (some w.heap.size), .bool false] 47 (0, 0)) := heap_alloc_at (by simp)
  have hn : (((w.alloc (.map #[] 0)).alloc (.cells (madeCells #[Value.string ⟨#[]⟩] m) 9)).alloc (.cells #[.slice (some ⟨w.heap.size + 1, 0, none⟩) m m, .map (some w.heap.size), .bool false] 47)).heap[w.heap.size + 1]? =
      some (.cells (madeCells #[Value.string ⟨#[]⟩] m) 9 (0, 0)) := (heap_alloc_ne (by simp)).trans (heap_alloc_at (by simp))
  have hb : (((w.alloc (.map #[] 0)).alloc (.cells (madeCells #[Value.string ⟨#[]⟩] m) 9)).alloc (.cells #[.slice (some ⟨w.heap.size + 1, 0, none⟩) m m, .map (some w.heap.size), .bool false] 47)).heap[w.heap.size]? =
      some (.map #[] 0) := (heap_alloc_ne (by simp; omega)).trans ((heap_alloc_ne (by simp)).trans (heap_alloc_at rfl))
  have hO := (((Only.refl [] w).alloc (.map #[] 0)).alloc (.cells (madeCells #[Value.string ⟨#[]⟩] m) 9)).alloc (.cells #[.slice (some ⟨w.heap.size + 1, 0, none⟩) m m, .map (some w.heap.size), .bool false] 47)
  generalize hW : ((w.alloc (.map #[] 0)).alloc (.cells (madeCells #[Value.string ⟨#[]⟩] m) 9)).alloc (.cells #[.slice (some ⟨w.heap.size + 1, 0, none⟩) m m, .map (some w.heap.size), .bool false] 47) = W at *
  have hmk2 := run_make (P := Try.prog) W 48 _ i5 _ Try.underlying48 hi5 hz5 .i64 .i64 64 64 (by decide) (by decide) (by rw [hb5]; decide) (by decide)
  rw [hs5] at hmk2
  simp only [Value.cells, show (64 : Int).toNat = 64 from rfl, Nat.mul_one] at hmk2
  have hown : (W.alloc (.cells (madeCells #[Value.int .u8 0] 64) 5)).ownsRow 0 5 1 (.slice (some ⟨W.heap.size, 0, none⟩) 64 64) 64 (strCells zero64) := by
    rw [zero64_cells]; exact World.ownsRow_lit W _ 64 (Nat.zero_le _) (by unfold maxLen; omega) (by rw [size_madeCells])
  have hcv := run_string_own (P := Try.prog) (dst := 9) Try.underlying48 Try.underlying5 Try.underlying9 hown
  have c0 := cell_at (o := 0) hd rfl
  have hO1 : Only [] w (W.alloc (.cells (madeCells #[Value.int .u8 0] 64) 5)) := hO.alloc _
  have hd1 := (heap_alloc_ne (o := .cells (madeCells #[Value.int .u8 0] 64) 5) (lt_of_heap hd)).trans hd
  have hn1 := (heap_alloc_ne (o := .cells (madeCells #[Value.int .u8 0] 64) 5) (lt_of_heap hn)).trans hn
  have hb1 := (heap_alloc_ne (o := .cells (madeCells #[Value.int .u8 0] 64) 5) (lt_of_heap hb)).trans hb
  have c01 := cell_at (o := 0) hd1 rfl
  generalize hW1 : W.alloc (.cells (madeCells #[Value.int .u8 0] 64) 5) = W1 at *
  have HD := Lib.hid hd1
  have HN := Lib.hid hn1
  have HB := Lib.hid hb1
  have HO := Lib.hid hO1
  clear hd hn hb hO hW hd1 hn1 hb1 hO1 hW1 hown hmk hmm c0
  go_wp2_with fail
  go_loopw [20] (fun v wr => ∃ (k : Nat) (l : List ByteArray), k ≤ m ∧ v = .int .i64 k ∧ l.length = m ∧ l = List.replicate k zero64 ++ l.drop k ∧
    wr.heap[w.heap.size + 2]? = some (.cells #[.slice (some ⟨w.heap.size + 1, 0, none⟩) m m, .map (some w.heap.size), .bool false] 47 (0, 0)) ∧
    wr.heap[w.heap.size + 1]? = some (.cells (l.map Value.string).toArray 9 (0, 0)) ∧ wr.heap[w.heap.size]? = some (.map #[] 0) ∧ Only [] w wr) (fun v _ => m - (intOf v).toNat)
  case atStart =>
    refine ⟨0, List.replicate m ⟨#[]⟩, by omega, rfl, by simp, by simp, HD.out, ?_, HB.out, HO.out⟩
    rw [HN.out]
    congr 2
    apply Array.ext'
    rw [toList_madeCells_one]; simp
  case round =>
    obtain ⟨k, l, hk, rfl, hl, hrep, hd, hn, hb, hO⟩ := hrel
    have c0 := cell_at (o := 0) hd rfl
    by_cases hlt : k < m
    · have hcell : ∃ u, wr.cell? ⟨w.heap.size + 1, k, none⟩ = some u := ⟨_, cell_at hn (by simp [List.getElem?_eq_getElem (show k < l.length by omega)]; rfl)⟩
      obtain ⟨u, hu⟩ := hcell
      have hf : wr.frozen? ⟨w.heap.size + 1, k, none⟩ = false := frozen_at hn
      have HD2 := Lib.hid hd
      have HN2 := Lib.hid hn
      have HB2 := Lib.hid hb
      have HR := Lib.hid hrep
      have HL := Lib.hid hl
      clear hd hn hb hrep hl c01 hmk2 hcv
      go_wp2_with fail
      refine ⟨⟨k + 1, l.set k zero64, by omega, by go_num, by simpa using HL.out, range_step l k zero64 HR.out (by rw [HL.out]; exact hlt), (heap_store_ne (by simp)).trans HD2.out, ?_, (heap_store_ne (by simp)).trans HB2.out, hO.setCell (.inr (by simp)) _⟩, by simp [intOf]; omega⟩
      rw [heap_store HN2.out]; simp
    · have : k = m := by omega
      subst this
      have hfull : l = List.replicate k zero64 := by rw [hrep, List.drop_of_length_le (by omega)]; simp
      have HD2 := Lib.hid hd
      have HN2 := Lib.hid hn
      have HB2 := Lib.hid hb
      have HR := Lib.hid hfull
      clear hd hn hb hrep hl c01 hmk2 hcv hfull
      go_wp2_with fail
      go_ret
      refine ⟨w.heap.size + 2, w.heap.size + 1, w.heap.size, rfl, ⟨?_, ?_, ?_, ⟨#[], 0, [], HB2.out, MapOf.nil 0, ?_⟩⟩, hO, by omega, by omega, by omega⟩
      · rw [← HDEV.out]; exact Dev.new_ok n
      · rw [HD2.out]; simp
      · rw [HN2.out, HR.out]
      · intro j
        simp only [mget, sureAt, List.getElem?_replicate]
        split
        · split <;> rfl
        · rfl
end Go.Proofs.Ythbccnpnkfcmfaa
