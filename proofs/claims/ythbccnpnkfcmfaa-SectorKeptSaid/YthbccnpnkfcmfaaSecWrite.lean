/- Write: what it does to a device in memory. -/
import Derived.Test.YthbccnpnkfcmfaaSec
import Derived.StillTailTactics
namespace Go.Proofs.Ythbccnpnkfcmfaa
open Go.RowKit
set_option linter.unusedSimpArgs false
set_option linter.unusedVariables false
theorem info9 : (Try.prog.info? 9).map (fun i => (i.zero, i.size, i.bytes)) = some (some (.string ⟨#[]⟩), 1, 16) := by kernel_rfl
theorem sureAt_some {S : List (Option ByteArray)} {k : Nat} {s : ByteArray} (h : (S[k]?).getD none = some s) : sureAt S ((k : Nat) : Int) = some (.string s) := by
  simp [sureAt, h]
theorem sureAt_none {S : List (Option ByteArray)} {k : Nat} (h : (S[k]?).getD none = none) : sureAt S ((k : Nat) : Int) = none := by
  simp [sureAt, h]
theorem check_ok {D : Dev} {at_ n : Int} {ok : Bool} (h : D.check at_ n ok = 0) : 0 ≤ at_ ∧ 1 ≤ n ∧ at_ + n ≤ D.now.length ∧ ok = true ∧ D.lost = false := by
  unfold Dev.check at h
  split at h
  · cases h
  split at h
  · cases h
  split at h
  · cases h
  · rename_i h1 h2 h3
    refine ⟨by omega, by omega, by omega, ?_, by simpa using h3⟩
    cases ok <;> simp_all
theorem DevAt.put {w w' : World} {d bn bm : Nat} {D : Dev} (h : DevAt w d bn bm D) (k : Nat) {s : ByteArray} (hs : s.size = 64) (hd' : w'.heap[d]? = w.heap[d]?)
    (hn' : w'.heap[bn]? = some (.cells ((D.now.map Value.string).toArray.setIfInBounds k (.string s)) 9 (0, 0)))
    (hm' : ∃ es ck l, w'.heap[bm]? = some (.map es ck) ∧ MapOf es ck l ∧ ∀ k', mget k' l = sureAt (D.put k s).sure k') : DevAt w' d bn bm (D.put k s) := by
  refine ⟨Dev.put_ok h.ok k hs, ?_, ?_, hm'⟩
  · rw [hd', h.hd]; simp [Dev.put]
  · rw [hn']; simp [Dev.put]
theorem sureAt_set {S : List (Option ByteArray)} {k : Nat} {x : ByteArray} (hk : k < S.length) (k' : Int) : sureAt (S.set k (some x)) k' = if k' = k then some (.string x) else sureAt S k' := by
  unfold sureAt
  by_cases h : k' = k
  · subst h; simp [hk]
  · rw [if_neg h]
    by_cases h0 : 0 ≤ k'
    · rw [if_pos h0, if_pos h0, List.getElem?_set_ne (by omega)]
    · rw [if_neg h0, if_neg h0]
set_option maxHeartbeats 1000000 in
theorem write_at {w : World} {d bn bm : Nat} {D : Dev} (h : DevAt w d bn bm D) (at_ : Int) (s : ByteArray) (hs : s.size ≤ maxLen) :
    Calls Try.prog 10 #[.pointer (some ⟨d, 0, none⟩), .int .i64 at_, .string s] w fun e w' => e = .returned (.int .i64 (D.write at_ s).2) ∧ DevAt w' d bn bm (D.write at_ s).1 ∧ Only [bn, bm] w w' := by
  unfold maxLen at hs
  unfold Dev.write
  by_cases hc : D.check at_ ((s.size : Int) / 64) ((s.size : Int) % 64 == 0) = 0
  · rw [if_pos hc]
    have hcb : (D.check at_ ((s.size : Int) / 64) ((s.size : Int) % 64 == 0) != 0) = false := by rw [hc]; rfl
    obtain ⟨h0, h1, h2, h3, h4⟩ := check_ok hc
    obtain ⟨a, rfl⟩ := Int.eq_ofNat_of_zero_le h0
    have hmost := h.ok.most
    have hlen2 : (a : Int) + (s.size : Int) / 64 ≤ 4096 := by omega
    have H := Lib.hid h
    have HC := Lib.hid hc
    have H2 := Lib.hid h2
    clear h hc h0 h1 h3 h4 h2 hmost
    go_enter Try.func10, Try.ntmps10
    go_wp2_with (go_at_call 19; refine (check_at H.out _ _ _).mono ?_; rintro e w' ⟨rfl, rfl⟩)
    go_loopw [28] (fun v wr => ∃ i : Nat, (i : Int) ≤ (s.size : Int) / 64 ∧ v = .int .i64 i ∧ DevAt wr d bn bm (D.puts a s i) ∧ Only [bn, bm] w wr) (fun v _ => s.size - (intOf v).toNat)
    case atStart => exact ⟨0, by omega, rfl, H.out, Only.refl _ _⟩
    case round =>
      obtain ⟨i, hi, rfl, hD, hO⟩ := hrel
      by_cases hlt : (i : Int) < (s.size : Int) / 64
      · have hl : (D.puts a s i).now.length = D.now.length := Dev.puts_len D a s i
        have c0 := hD.c0
        have c1 := hD.c1
        generalize hD' : D.puts a s i = D' at *
        obtain ⟨x, hx⟩ : ∃ x, D'.now[a + i]? = some x := ⟨D'.now[a + i]'(by have := H2.out; omega), List.getElem?_eq_getElem _⟩
        have hcell : wr.cell? ⟨bn, a + i, none⟩ = some (.string x) := cell_at hD.hn (by simp [hx])
        have hfro : wr.frozen? ⟨bn, a + i, none⟩ = false := frozen_at hD.hn
        have hidx : (a : Int) + i < D'.now.length := by have := H2.out; omega
        have hsl := fun wx => run_slice_string (P := Try.prog) (w := wx) 9 s .i64 .i64 ((i : Int) * 64) (((i : Int) + 1) * 64) Try.underlying9 (by omega) (by omega) (by omega)
        obtain ⟨es, ck, l, hb, hM, hl'⟩ := hD.hm
        cases hsu : (D'.sure[a + i]?).getD none with
        | some y =>
          have hg : mget ((a : Int) + i) l = some (.string y) := by rw [hl', ← sureAt_some hsu]; congr 1
          have hrun := run_mlookup_some (P := Try.prog) (c := true) Try.underlying44 Try.underlying3 hb hM hg
          rw [if_pos rfl] at hrun
          have HD := Lib.hid hD
          have HX := Lib.hid hx
          have HL := Lib.hid hl
          have HS := Lib.hid hsu
          have HB := Lib.hid hb
          have HM := Lib.hid hM
          have HE := Lib.hid hD'
          have HL' := Lib.hid hl'
          clear hD hx hl hsu hb hM hD' hl' hg
          go_wp2_with fail
          go_region
          go_wp2
          go_roundw
          case rel =>
            refine ⟨i + 1, by omega, by go_num, ?_, ?_⟩
            · have hnz := HD.out.ne1
              have hnm := HD.out.ne3
              have := HE.out
              show DevAt _ d bn bm ((D.puts a s i).put (a + i) (s.extract (i * 64) ((i + 1) * 64)))
              rw [this]
              refine HD.out.put (a + i) (piece_size (by omega)) ?_ ?_ ⟨es, ck, l, ?_, HM.out, ?_⟩
              · exact heap_store_ne (by simpa using hnz)
              · exact heap_store HD.out.hn
              · exact (heap_store_ne (by simpa using hnm.symm)).trans HB.out
              · intro k'; rw [HL'.out]; unfold Dev.put; dsimp only; rw [HS.out]
            · exact (hO.setCell (.inl (by simp)) _).drew
          case measure => simp [intOf]; omega
        | none =>
          have hg : mget ((a : Int) + i) l = none := by rw [hl', ← sureAt_none hsu]; congr 1
          obtain ⟨i0, hi0, hz0, _, _⟩ := info_parts info9
          have hrun := run_mlookup_none (P := Try.prog) (c := true) Try.underlying44 Try.underlying3 hi0 hz0 hb hM hg
          rw [if_pos rfl] at hrun
          obtain ⟨es', ck', hup, hM'⟩ := run_mset (P := Try.prog) (b := bm) (v := .string x) (k := (a : Int) + i) Try.underlying44 Try.underlying3 hM
          have hup1 := hup wr.drew hb
          have hnz := hD.ne1
          have hnm := hD.ne3
          have hdm := hD.ne2
          have d0 : (ChangeMaps.setBlock wr.drew bm (.map es' ck')).cell? ⟨d, 0, none⟩ = some (.slice (some ⟨bn, 0, none⟩) D'.now.length D'.now.length) := (setB_cell (by simpa using hdm)).trans c0
          have dc : (ChangeMaps.setBlock wr.drew bm (.map es' ck')).cell? ⟨bn, a + i, none⟩ = some (.string x) := (setB_cell (by simpa using hnm)).trans hcell
          have df : (ChangeMaps.setBlock wr.drew bm (.map es' ck')).frozen? ⟨bn, a + i, none⟩ = false := (setB_frozen (by simpa using hnm)).trans hfro
          have hW := setB_same (w := wr.drew) (b := bm) (o := .map es' ck') hb
          have hW1 : (ChangeMaps.setBlock wr.drew bm (.map es' ck')).heap[d]? = wr.heap[d]? := setB_other hdm
          have hW2 : (ChangeMaps.setBlock wr.drew bm (.map es' ck')).heap[bn]? = wr.heap[bn]? := setB_other hnm
          have hOW : Only [bn, bm] w (ChangeMaps.setBlock wr.drew bm (.map es' ck')) := hO.drew.setB (.inl (by simp)) _
          have HD := Lib.hid hD
          have HX := Lib.hid hx
          have HL := Lib.hid hl
          have HL' := Lib.hid hl'
          have HS := Lib.hid hsu
          have HB := Lib.hid hb
          have HM := Lib.hid hM'
          have HE := Lib.hid hD'
          generalize hWW : ChangeMaps.setBlock wr.drew bm (.map es' ck') = W1 at *
          have HW := Lib.hid hW
          have HW1 := Lib.hid hW1
          have HW2 := Lib.hid hW2
          clear hD hx hl hsu hb hM hM' hD' hl' hg hi0 hz0 hup hW hW1 hW2 hnz hnm hdm hWW
          go_wp2_with fail
          go_region
          go_wp2_with fail
          go_region
          go_wp2
          go_roundw
          case rel =>
            refine ⟨i + 1, by omega, by go_num, ?_, ?_⟩
            · have hnz := HD.out.ne1
              have hnm := HD.out.ne3
              have := HE.out
              show DevAt _ d bn bm ((D.puts a s i).put (a + i) (s.extract (i * 64) ((i + 1) * 64)))
              rw [this]
              refine HD.out.put (a + i) (piece_size (by omega)) ?_ ?_ ⟨es', ck', _, ?_, HM.out, ?_⟩
              · exact (heap_store_ne (by simpa using hnz)).trans HW1.out
              · exact heap_store (HW2.out.trans HD.out.hn)
              · exact (heap_store_ne (by simpa using hnm.symm)).trans HW.out
              · intro k'
                rw [mget_mset, HL'.out]; unfold Dev.put; dsimp only; rw [HS.out, HX.out]
                dsimp only
                rw [sureAt_set (by rw [HD.out.ok.same]; omega)]
                simp
            · exact (hOW.drew.setCell (.inl (by simp)) _)
          case measure => simp [intOf]; omega
      · have hi' : i = s.size / 64 := by omega
        subst hi'
        go_wp2
        go_ret
        exact ⟨rfl, hD, hO⟩
  · rw [if_neg hc]
    have hcb : (D.check at_ ((s.size : Int) / 64) ((s.size : Int) % 64 == 0) != 0) = true := by rw [bne_iff_ne]; exact hc
    have H := Lib.hid h
    clear h hc
    go_enter Try.func10, Try.ntmps10
    go_wp2_with (go_at_call 19; refine (check_at H.out _ _ _).mono ?_; rintro e w' ⟨rfl, rfl⟩)
    go_ret
    exact ⟨rfl, H.out, Only.refl _ _⟩
end Go.Proofs.Ythbccnpnkfcmfaa
