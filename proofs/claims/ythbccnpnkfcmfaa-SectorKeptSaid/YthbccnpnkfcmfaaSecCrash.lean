/- Crash: what is there behind it. -/
import Derived.Test.YthbccnpnkfcmfaaSecLoose
import Derived.Deep.DeepCutAuto
import Derived.Deep.CutBlock
import Derived.WalkSmall
namespace Go.Proofs.Ythbccnpnkfcmfaa
open Go.RowKit Go.Lib
set_option linter.unusedSimpArgs false
set_option linter.unusedVariables false
theorem crash_nil (keep tear : Int) (w : World) : Calls Try.prog 15 #[.pointer none, .int .u64 keep, .int .i64 tear] w fun e w' => e = .returned (.tuple #[]) ∧ w = w' := by
  go_enter Try.func15, Try.ntmps15
  go_wp2_with fail
  exact bodyPost_ret (results_none rfl _ _ _) rfl ⟨rfl, rfl⟩
theorem crash_store {w : World} {d bn bm : Nat} {D : Dev} (h : DevAt w d bn bm D) (i : Nat) {y z : ByteArray} (hy : y.size = 64) (hz : z = y) :
    DevAt ((w.setCell ⟨bn, i, none⟩ (.string z)).drew) d bn bm { D with now := D.now.set i y } := by
  subst hz
  refine ⟨⟨by simpa using h.ok.pos, by simpa using h.ok.most, by simpa using h.ok.same, fun t ht => ?_, h.ok.sizeS⟩, ?_, ?_, ?_⟩
  · rcases List.mem_or_eq_of_mem_set ht with ht | rfl
    · exact h.ok.size t ht
    · exact hy
  · show (w.setCell _ _).heap[d]? = _
    rw [heap_store_ne (by simpa using h.ne1), h.hd]; simp
  · show (w.setCell _ _).heap[bn]? = _
    rw [heap_store h.hn]; simp
  · obtain ⟨es, ck, l, hb, hM, hl⟩ := h.hm
    exact ⟨es, ck, l, (heap_store_ne (w := w) (by simpa using h.ne3.symm)).trans hb, hM, hl⟩
set_option maxHeartbeats 4000000 in
theorem crash_at {w : World} {d bn bm : Nat} {D : Dev} (h : DevAt w d bn bm D) (keep tear : Int) (hk0 : 0 ≤ keep) (hk1 : keep ≤ 18446744073709551615) :
    Calls Try.prog 15 #[.pointer (some ⟨d, 0, none⟩), .int .u64 keep, .int .i64 tear] w fun e w' => e = .returned (.tuple #[]) ∧ DevAt w' d bn bm (D.crash keep tear) ∧ Only [bn, bm] w w' := by
  have hpos := h.ok.most
  have H := Lib.hid h
  clear h
  go_enter Try.func15, Try.ntmps15
  go_upto_region 1 with (fail)
  go_cut [6] (fun v wr => v = .bool (decide (tear ≤ 0 ∨ 64 ≤ tear)) ∧ w = wr)
  case first =>
    by_cases h1 : tear ≤ 0
    · have h1b : decide (tear ≤ 0) = true := decide_eq_true h1
      go_wp2
      go_meet
      case rel => exact ⟨by rw [decide_eq_true (Or.inl h1)], rfl⟩
    · have h1b : decide (tear ≤ 0) = false := decide_eq_false h1
      by_cases h2 : 64 ≤ tear
      · go_wp2
        go_meet
        case rel => exact ⟨by rw [decide_eq_true (Or.inr h2)], rfl⟩
      · go_wp2
        go_meet
        case rel => exact ⟨by rw [decide_eq_false (by omega)], rfl⟩
  case rest =>
    obtain ⟨rfl, rfl⟩ := hcut
    have ht : decide (tear ≤ 0 ∨ 64 ≤ tear) = false → 0 < tear ∧ tear < 64 := by intro h; simp at h; omega
    generalize ht0 : decide (tear ≤ 0 ∨ 64 ≤ tear) = t0 at *
    have HT0 := Lib.hid ht0
    have HT := Lib.hid ht
    clear ht0 ht
    go_wp2_with fail
    refine (loose_at H.out).mono ?_
    rintro e w1 ⟨v, rfl, hown, hO⟩
    obtain ⟨a, cap, rfl, hat⟩ := own_shape hown
    have HOWN := Lib.hid hown
    have HAT := Lib.hid hat
    have hlen := Dev.loose_len D
    have HD1 := Lib.hid (H.out.keep (hO.block _ (lt_of_heap H.out.hd) (by simp)) (hO.block _ (lt_of_heap H.out.hn) (by simp)) (by obtain ⟨_, _, _, hb, _⟩ := H.out.hm; exact hO.block _ (lt_of_heap hb) (by simp)))
    clear hown hat
    go_wp2_with fail
    go_loopw [6, 22] (fun tv v wr => ∃ (k : Nat) (torn : Bool) (D' : Dev), k ≤ D.loose.length ∧ v = .int .i64 k ∧ tv = .bool torn ∧ (torn = false → 0 < tear ∧ tear < 64) ∧
      Dev.fall keep tear (D.loose.drop k) k torn D' = Dev.fall keep tear D.loose 0 t0 D ∧ DevAt wr d bn bm D' ∧ D'.sure = D.sure ∧ Only [bn] w1 wr) (fun _ v _ => D.loose.length - (intOf v).toNat)
    case atStart => exact ⟨0, t0, D, by omega, rfl, rfl, HT.out, rfl, HD1.out, rfl, Only.refl _ _⟩
    case round =>
      obtain ⟨k, torn, D', hk, rfl, rfl, ht, hfall, hD, hsure, hO2⟩ := hrel
      by_cases hlt : k < D.loose.length
      · obtain ⟨i, hi⟩ : ∃ i, D.loose[k]? = some i := ⟨D.loose[k], List.getElem?_eq_getElem _⟩
        obtain ⟨hin, his⟩ := (Dev.loose_mem D i).1 (List.mem_of_getElem? hi)
        obtain ⟨g, rfl, hg, hgc⟩ := HAT.out k (.int .i64 i) (by simp [hi])
        have hgb : g ≠ bn := fun e => by have := lt_of_heap H.out.hn; omega
        have hgc' := hO2.cell hgc (by simpa using hgb)
        obtain ⟨y, hy⟩ := Option.isSome_iff_exists.1 his
        rw [← hsure] at hy
        have hlen' : D'.now.length = D.now.length := by rw [← hD.ok.same, ← H.out.ok.same, hsure]
        obtain ⟨x, hx⟩ : ∃ x, D'.now[i]? = some x := ⟨D'.now[i]'(by omega), List.getElem?_eq_getElem _⟩
        have hcell : wr.cell? ⟨bn, i, none⟩ = some (.string x) := cell_at hD.hn (by simp [hx])
        have hfro : wr.frozen? ⟨bn, i, none⟩ = false := frozen_at hD.hn
        have c0 := hD.c0
        have c1 := hD.c1
        obtain ⟨es, ck, l, hb, hM, hl⟩ := hD.hm
        have hrun := fun (n : Nat) => run_mlookup_some (P := Try.prog) (w := wr.drewN n) (c := false) Try.underlying44 Try.underlying3 hb hM ((hl i).trans (sureAt_some hy))
        have HD := Lib.hid hD
        have HX := Lib.hid hx
        have HY := Lib.hid hy
        have HF := Lib.hid hfall
        have HS := Lib.hid hsure
        have HT2 := Lib.hid ht
        have HI := Lib.hid hi
        have HLL := Lib.hid hlen'
        have hrun1 := run_mlookup_some (P := Try.prog) (w := wr.drew) (c := false) Try.underlying44 Try.underlying3 hb hM ((hl i).trans (sureAt_some hy))
        rw [if_neg (by decide)] at hrun1
        have hidx : i < D'.now.length := by omega
        have hxs : x.size = 64 := hD.ok.size x (List.mem_of_getElem? hx)
        have hys : y.size = 64 := by
          refine hD.ok.sizeS y ?_
          cases hh : D'.sure[i]? with
          | none => rw [hh] at hy; cases hy
          | some o => rw [hh] at hy; simp at hy; subst hy; exact List.mem_of_getElem? hh
        have HXS := Lib.hid hxs
        have HYS := Lib.hid hys
        have hy64 : y.size ≤ 64 := by omega
        have hx64 : x.size ≤ 64 := by omega
        have hk4 : k < 4096 := by omega
        clear hD hx hy hfall hsure ht hi hin his hgc hb hM hl hlen' hrun hxs hys
        cases hkeep : keeps keep k with
        | true =>
          have hkk := hkeep
          unfold keeps at hkk
          simp only [Bool.and_eq_true, decide_eq_true_eq] at hkk
          obtain ⟨h64, hbit⟩ := hkk
          have hand : bits .and .u64 (keep / 2 ^ k) 1 = 1 := by
            rw [and_one_u64 _ (Int.ediv_nonneg hk0 (by exact_mod_cast Nat.zero_le _)) (by refine Int.le_trans (Int.ediv_le_self _ hk0) hk1)]; exact hbit
          have hb64 : decide ((k : Int) < 64) = true := decide_eq_true (by omega)
          have hb1 : (bits .and .u64 (keep / 2 ^ k) 1 == 1) = true := by rw [hand]; rfl
          have h64' : (k : Int) ≤ 64 := by omega
          have HK := Lib.hid hkeep
          clear hkeep hbit hand
          go_wp2_with fail
          refine ⟨⟨k + 1, torn, D', by omega, by go_num, rfl, HT2.out, ?_, HD.out, HS.out, hO2⟩, by simp [intOf]; omega⟩
          rw [← HF.out, List.drop_eq_getElem_cons hlt, (List.getElem?_eq_some_iff.1 HI.out).2, Dev.fall_cons]
          unfold Dev.drop1
          rw [HK.out]; rfl
        | false =>
          have hkk := hkeep
          unfold keeps at hkk
          have HK := Lib.hid hkeep
          clear hkeep
          by_cases h64 : k < 64
          case' pos =>
            have hand : bits .and .u64 (keep / 2 ^ k) 1 ≠ 1 := by
              rw [and_one_u64 _ (Int.ediv_nonneg hk0 (by exact_mod_cast Nat.zero_le _)) (by refine Int.le_trans (Int.ediv_le_self _ hk0) hk1)]
              intro e; rw [decide_eq_true h64, decide_eq_true e] at hkk; cases hkk
            have hb1 : (bits .and .u64 (keep / 2 ^ k) 1 == 1) = false := by rw [beq_eq_false_iff_ne]; exact hand
            have hb64 : decide ((k : Int) < 64) = true := decide_eq_true (by omega)
            have h64' : (k : Int) ≤ 64 := by omega
            clear hand
          case' neg =>
            have hb64 : decide ((k : Int) < 64) = false := decide_eq_false (by omega)
          all_goals
            clear hkk
            cases torn with
            | true =>
              go_wp2_with fail
              go_region
              go_wp2_with fail
              refine ⟨⟨k + 1, true, { D' with now := D'.now.set i y }, by omega, by go_num, rfl, by simp, ?_, crash_store HD.out i HYS.out (by rw [nil_app]), HS.out, (hO2.setCell (.inl (by simp)) _).drew⟩, by simp [intOf]; omega⟩
              rw [← HF.out, List.drop_eq_getElem_cons hlt, (List.getElem?_eq_some_iff.1 HI.out).2, Dev.fall_cons]
              unfold Dev.drop1
              rw [HK.out, HY.out]; rfl
            | false =>
              obtain ⟨ht1, ht2⟩ := HT2.out rfl
              have ht3 : 0 ≤ tear ∧ tear ≤ (x.size : Int) := by have := HXS.out; omega
              go_wp2_with fail
              have hzs : (x.extract 0 tear.toNat).size = tear.toNat := by have := HXS.out; simp [ByteArray.size_extract]; omega
              generalize hz : x.extract 0 tear.toNat = z at *
              have hz64 : z.size ≤ 64 := by omega
              have hzy : (z.size : Int) ≤ (y.size : Int) := by have := HYS.out; omega
              have HZ := Lib.hid hz
              have HZS := Lib.hid hzs
              clear hz hzs
              go_region
              go_wp2_with fail
              have hnew : (z ++ y.extract z.size y.size).size = 64 := by
                have := HYS.out; have := HZS.out; simp [ByteArray.size_append, ByteArray.size_extract]; omega
              refine ⟨⟨k + 1, true, { D' with now := D'.now.set i (z ++ y.extract z.size y.size) }, by omega, by go_num, rfl, by simp, ?_, crash_store HD.out i hnew rfl, HS.out, (hO2.setCell (.inl (by simp)) _).drew⟩, by simp [intOf]; omega⟩
              rw [← HF.out, List.drop_eq_getElem_cons hlt, (List.getElem?_eq_some_iff.1 HI.out).2, Dev.fall_cons]
              unfold Dev.drop1
              rw [HK.out, HY.out, HX.out, HYS.out, HZS.out]
              dsimp only [Option.getD, Bool.false_eq_true, if_false]
              rw [HZ.out]
              rfl
      · have : k = D.loose.length := by omega
        subst this
        have hn : D.loose.drop D.loose.length = [] := List.drop_length
        rw [hn] at hfall
        have hcr : D'.flush = D.crash keep tear := by
          unfold Dev.crash
          rw [HT0.out, ← hfall]; rfl
        have HD := Lib.hid hD
        have HC := Lib.hid hcr
        clear hD hcr hfall hn hsure ht
        go_wp2_with fail
        refine (flush_at HD.out).mono ?_
        rintro e w2 ⟨rfl, hDf, hOf⟩
        rw [HC.out] at hDf
        have HDF := Lib.hid hDf
        clear hDf
        go_wp2_with fail
        go_end0
        exact ⟨rfl, HDF.out, ((hO.mono (G := [bn, bm]) (by simp)).call hO2 (by simp)).call hOf (by simp)⟩
end Go.Proofs.Ythbccnpnkfcmfaa
