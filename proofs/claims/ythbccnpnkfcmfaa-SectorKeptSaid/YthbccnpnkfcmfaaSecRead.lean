/- Read, Sectors, Flush, Lose: what they do to a device in memory. -/
import Derived.Test.YthbccnpnkfcmfaaSecWrite
import Derived.Test.YthbccnpnkfcmfaaBytes
namespace Go.Proofs.Ythbccnpnkfcmfaa
open Go.RowKit Go.Lib
set_option linter.unusedSimpArgs false
set_option linter.unusedVariables false
theorem sectors_at {w : World} {d bn bm : Nat} {D : Dev} (h : DevAt w d bn bm D) :
    Calls Try.prog 13 #[.pointer (some ⟨d, 0, none⟩)] w fun e w' => e = .returned (.int .i64 D.now.length) ∧ w = w' := by
  have c0 := h.c0
  clear h
  go_enter Try.func13, Try.ntmps13
  go_wp2
  go_ret
  exact ⟨rfl, rfl⟩
theorem sectors_nil (w : World) : Calls Try.prog 13 #[.pointer none] w fun e w' => e = .returned (.int .i64 0) ∧ w = w' := by
  go_enter Try.func13, Try.ntmps13
  go_wp2
  go_ret
  exact ⟨rfl, rfl⟩
theorem flush_nil (w : World) : Calls Try.prog 11 #[.pointer none] w fun e w' => e = .returned (.tuple #[]) ∧ w = w' := by
  go_enter Try.func11, Try.ntmps11
  go_wp2
  go_end0
  exact ⟨rfl, rfl⟩
theorem flush_at {w : World} {d bn bm : Nat} {D : Dev} (h : DevAt w d bn bm D) :
    Calls Try.prog 11 #[.pointer (some ⟨d, 0, none⟩)] w fun e w' => e = .returned (.tuple #[]) ∧ DevAt w' d bn bm D.flush ∧ Only [bm] w w' := by
  have c1 := h.c1
  obtain ⟨es, ck, l, hb, hM, hl⟩ := h.hm
  have hrun := run_mclear (P := Try.prog) (w := w) 0 Try.underlying44 hb
  have H := Lib.hid h
  have HB := Lib.hid hb
  clear h hb hM hl
  go_enter Try.func11, Try.ntmps11
  go_wp2
  go_end0
  refine ⟨rfl, ⟨Dev.flush_ok H.out.ok, ?_, ?_, ⟨#[], ck, [], setB_same HB.out, MapOf.nil ck, ?_⟩⟩, (Only.refl _ _).setB (.inl (by simp)) _⟩
  · exact (setB_other H.out.ne2).trans H.out.hd
  · exact (setB_other H.out.ne3).trans H.out.hn
  · intro k
    simp only [mget, sureAt, Dev.flush, List.getElem?_replicate]
    split
    · split <;> rfl
    · rfl
theorem lose_nil (w : World) : Calls Try.prog 17 #[.pointer none] w fun e w' => e = .returned (.tuple #[]) ∧ w = w' := by
  go_enter Try.func17, Try.ntmps17
  go_wp2
  go_end0
  exact ⟨rfl, rfl⟩
theorem lose_at {w : World} {d bn bm : Nat} {D : Dev} (h : DevAt w d bn bm D) :
    Calls Try.prog 17 #[.pointer (some ⟨d, 0, none⟩)] w fun e w' => e = .returned (.tuple #[]) ∧ DevAt w' d bn bm D.lose ∧ Only [d, bm] w w' := by
  have H := Lib.hid h
  clear h
  go_enter Try.func17, Try.ntmps17
  go_wp2_with fail
  refine (flush_at H.out).mono ?_
  rintro e w' ⟨rfl, hD, hO⟩
  have c2 := hD.c2
  have f2 : w'.frozen? ⟨d, 2, none⟩ = false := frozen_at hD.hd
  have HD := Lib.hid hD
  have HO := Lib.hid hO
  clear hD hO
  go_wp2
  go_end0
  refine ⟨rfl, ⟨Dev.lose_ok H.out.ok, ?_, ?_, ?_⟩, (HO.out.mono (by simp)).setCell (.inl (by simp)) _⟩
  · rw [heap_store HD.out.hd]; simp [Dev.lose, Dev.flush]
  · exact (heap_store_ne (by simpa using HD.out.ne1.symm)).trans HD.out.hn
  · obtain ⟨es, ck, l, hb, hM, hl⟩ := HD.out.hm
    exact ⟨es, ck, l, (heap_store_ne (by simpa using HD.out.ne2.symm)).trans hb, hM, hl⟩
theorem nil_app (s : ByteArray) : (⟨#[]⟩ : ByteArray) ++ s = s := ByteArray.empty_append
theorem app_nil (s : ByteArray) : s ++ (⟨#[]⟩ : ByteArray) = s := ByteArray.append_empty
theorem cat_append (l m : List ByteArray) : cat (l ++ m) = cat l ++ cat m := by
  induction l with
  | nil => simp [cat, nil_app]
  | cons a l ih => simp [cat, ih, ByteArray.append_assoc]
theorem cat_take_succ {l : List ByteArray} {k : Nat} {x : ByteArray} (h : l[k]? = some x) : cat (l.take (k + 1)) = cat (l.take k) ++ x := by
  obtain ⟨hk, rfl⟩ := List.getElem?_eq_some_iff.1 h
  rw [List.take_succ_eq_append_getElem hk, cat_append]
  simp [cat, app_nil]
theorem cat_size {l : List ByteArray} {n : Nat} (h : ∀ s ∈ l, s.size = n) : (cat l).size = l.length * n := by
  induction l with
  | nil => simp [cat, ByteArray.size]
  | cons a l ih =>
    simp only [cat, ByteArray.size_append, List.length_cons, ih (fun s hs => h s (List.mem_cons_of_mem _ hs)), h a (List.mem_cons_self ..)]
    rw [Nat.add_mul]; omega
theorem info5 : (Try.prog.info? 5).map (fun i => (i.zero, i.size, i.bytes)) = some (some (.int .u8 0), 1, 1) := by kernel_rfl
theorem read_nil (at_ n : Int) (w : World) : Calls Try.prog 12 #[.pointer none, .int .i64 at_, .int .i64 n] w fun e w' => e = .returned (.tuple #[.string ⟨#[]⟩, .int .i64 1]) ∧ w = w' := by
  go_enter Try.func12, Try.ntmps12
  go_wp2_with (go_at_call 19; refine (check_nil _ _ _ _).mono ?_; rintro e w' ⟨rfl, rfl⟩)
  go_ret2
  exact ⟨rfl, rfl⟩
theorem write_nil (at_ : Int) (s : ByteArray) (w : World) (hs : s.size ≤ maxLen) : Calls Try.prog 10 #[.pointer none, .int .i64 at_, .string s] w fun e w' => e = .returned (.int .i64 1) ∧ w = w' := by
  unfold maxLen at hs
  go_enter Try.func10, Try.ntmps10
  go_wp2_with (go_at_call 19; refine (check_nil _ _ _ _).mono ?_; rintro e w' ⟨rfl, rfl⟩)
  go_ret
  exact ⟨rfl, rfl⟩
set_option maxHeartbeats 1000000 in
theorem read_at {w : World} {d bn bm : Nat} {D : Dev} (h : DevAt w d bn bm D) (at_ n : Int) :
    Calls Try.prog 12 #[.pointer (some ⟨d, 0, none⟩), .int .i64 at_, .int .i64 n] w fun e w' => e = .returned (.tuple #[.string (D.read at_ n).1, .int .i64 (D.read at_ n).2]) ∧ Only [] w w' := by
  unfold Dev.read
  by_cases hc : D.check at_ n true = 0
  · rw [if_pos hc]
    have hcb : (D.check at_ n true != 0) = false := by rw [hc]; rfl
    obtain ⟨h0, h1, h2, h3, h4⟩ := check_ok hc
    obtain ⟨a, rfl⟩ := Int.eq_ofNat_of_zero_le h0
    obtain ⟨n, rfl⟩ := Int.eq_ofNat_of_zero_le (Int.le_trans (by decide) h1)
    have hmost := h.ok.most
    have c0 := h.c0
    have H := Lib.hid h
    have HC := Lib.hid hc
    have hn1 : 1 ≤ n := by omega
    have hlen2 : (a : Int) + n ≤ 4096 := by omega
    clear h hc h0 h1 h3 h4
    go_enter Try.func12, Try.ntmps12
    obtain ⟨i5, hi5, hz5, hs5, hb5⟩ := info_parts info5
    obtain ⟨i9, hi9, hz9, hs9, hb9⟩ := info_parts info9
    have hsl := fun wx => run_cut (P := Try.prog) (w := wx) Try.underlying45 hi9 hs9 bn 0 D.now.length D.now.length a (a + n) a ((a : Int) + n) rfl (by omega) (by omega) (by omega) (by omega)
    rw [show 0 + a * 1 = a by omega, show a + n - a = n by omega] at hsl
    go_wp2_with (first | (go_at_call 19; refine (check_at H.out _ _ _).mono ?_; rintro e w' ⟨rfl, rfl⟩) | (at_make; refine wpList_make_own _ rfl _ _ 48 rfl w.heap.size 5 i5 (.int .u8 0) 1 Try.underlying48 hi5 hz5 hs5 .i64 .i64 _ (n * 64) rfl rfl (by omega) (by rw [hb5]; omega) (by unfold maxLen; omega) (Nat.le_refl _) ?_; intro w1 hown hgrow; have c01 := hgrow.cell c0 (by simp); clear c0))
    have hO1 : Only [] w w1 := (Only.refl _ _).grown hgrow (by simp)
    have HOW := Lib.hid hown
    clear hsl c01 hown hgrow
    go_loopw [9, 32] (fun b v wr => ∃ k : Nat, k ≤ n ∧ v = .int .i64 k ∧ wr.ownsRow w.heap.size 5 1 b (k * 64) (strCells (cat ((D.now.drop a).take k))) ∧ Only [] w wr) (fun _ v _ => n - (intOf v).toNat)
    case atStart => exact ⟨0, by omega, rfl, by simpa [cat, strCells_nil] using HOW.out, hO1⟩
    case round =>
      obtain ⟨k, hk, rfl, hown, hO⟩ := hrel
      by_cases hlt : k < n
      · obtain ⟨x, hx⟩ : ∃ x, D.now[a + k]? = some x := ⟨D.now[a + k]'(by omega), List.getElem?_eq_getElem _⟩
        have hcell : wr.cell? ⟨bn, a + k, none⟩ = some (.string x) := cell_at (hO.keep H.out.hn (by simp)) (by simp [hx])
        have hxs : x.size = 64 := H.out.ok.size x (List.mem_of_getElem? hx)
        have HX := Lib.hid hx
        have HXS := Lib.hid hxs
        have hlt2 : (k : Int) < n := by omega
        clear hx hxs
        go_wp2_with (first | (at_builtin; refine wpList_append_own_string _ rfl _ _ 48 9 rfl w.heap.size 5 i5 Try.underlying48 Try.underlying9 hi5 hz5 hs5 hb5 u9 (k * 64) _ rfl hown x rfl (by unfold maxLen; rw [HXS.out]; omega) (by rw [HXS.out]; omega) hO.size ?_; intro v' w2 hown2 hgrow2 _))
        refine ⟨⟨k + 1, by omega, by go_num, ?_, hO.grown hgrow2 (fun g hg => .inr (hown.lt g hg).1)⟩, by simp [intOf]; omega⟩
        rw [cat_take_succ (x := x) (by rw [List.getElem?_drop]; exact HX.out), strCells_append, show (k + 1) * 64 = k * 64 + x.size by rw [HXS.out]; omega]
        exact hown2
      · have hk' : k = n := by omega
        subst hk'
        have hcv := run_string_own (P := Try.prog) (w := wr) (dst := 9) Try.underlying48 Try.underlying5 Try.underlying9 hown
        go_wp2
        go_ret2
        exact ⟨rfl, hO⟩
  · rw [if_neg hc]
    have hcb : (D.check at_ n true != 0) = true := by rw [bne_iff_ne]; exact hc
    have H := Lib.hid h
    clear h hc
    go_enter Try.func12, Try.ntmps12
    go_wp2_with (go_at_call 19; refine (check_at H.out _ _ _).mono ?_; rintro e w' ⟨rfl, rfl⟩)
    go_ret2
    exact ⟨rfl, Only.refl _ _⟩
end Go.Proofs.Ythbccnpnkfcmfaa
