/- SectorSure: what was flushed is there behind any crash, but for sectors that were written again. -/
import Derived.Test.YthbccnpnkfcmfaaFew9
import Derived.Test.YthbccnpnkfcmfaaSecOver
import Derived.Deep.RegionWith
import Derived.Deep.RegionHeld3
import Derived.BigGuard
namespace Go.Proofs.Ythbccnpnkfcmfaa
open Go.RowKit Go.Lib
set_option linter.unusedSimpArgs false
set_option linter.unusedVariables false
/-- The deeds that p takes are written. -/
def wr9 (p : Deed9 → Bool) (D : Dev) (l : List Deed9) : Dev := l.foldl (fun D x => if p x then (D.write x.at_ x.text).1 else D) D
theorem wr9_succ (p : Deed9 → Bool) (D : Dev) {l : List Deed9} {k : Nat} {x : Deed9} (h : l[k]? = some x) : wr9 p D (l.take (k + 1)) = if p x then ((wr9 p D (l.take k)).write x.at_ x.text).1 else wr9 p D (l.take k) := by
  obtain ⟨hk, rfl⟩ := List.getElem?_eq_some_iff.1 h
  rw [List.take_succ_eq_append_getElem hk, wr9, List.foldl_append]
  rfl
theorem wr9_lost (p : Deed9 → Bool) (l : List Deed9) : ∀ (D : Dev), (wr9 p D l).lost = D.lost := by
  induction l with
  | nil => exact fun _ => rfl
  | cons x l ih =>
    intro D
    refine (ih (if p x then (D.write x.at_ x.text).1 else D)).trans ?_
    split
    · exact Dev.write_lost ..
    · rfl
theorem wr9_over (p : Deed9 → Bool) (l : List Deed9) {B : List ByteArray} : ∀ {D : Dev}, Dev.Over B D → Dev.Over B (wr9 p D l) := by
  induction l with
  | nil => exact fun h => h
  | cons x l ih =>
    intro D h
    refine ih (D := if p x then (D.write x.at_ x.text).1 else D) ?_
    split
    · exact h.write ..
    · exact h
theorem rank_lt {L : List Nat} (hp : L.Pairwise (· < ·)) {a b x y : Nat} (hx : L[a]? = some x) (hy : L[b]? = some y) (h : a < b) : x < y := by
  obtain ⟨ha, rfl⟩ := List.getElem?_eq_some_iff.1 hx
  obtain ⟨hb, rfl⟩ := List.getElem?_eq_some_iff.1 hy
  exact List.pairwise_iff_getElem.1 hp a b ha hb h
theorem rank_in {L : List Nat} (hp : L.Pairwise (· < ·)) {k y : Nat} (hy : L[k]? = some y) : ∀ j x, L[j]? = some x → (j < k + 1 ↔ x < y + 1) := by
  intro j x hx
  rcases Nat.lt_trichotomy j k with h | rfl | h
  · have := rank_lt hp hx hy h
    exact ⟨fun _ => by omega, fun _ => by omega⟩
  · rw [hx] at hy; cases hy
    exact ⟨fun _ => by omega, fun _ => by omega⟩
  · have := rank_lt hp hy hx h
    exact ⟨fun _ => by omega, fun _ => by omega⟩
theorem rank_out {L : List Nat} (hp : L.Pairwise (· < ·)) {k i : Nat} (hk : ∀ y, L[k]? = some y → y ≠ i) (h : ∀ j x, L[j]? = some x → (j < k ↔ x < i)) : i ∉ L := by
  intro hm
  obtain ⟨j, hj⟩ := List.getElem?_of_mem hm
  have h1 := h j i hj
  rcases Nat.lt_trichotomy j k with hjk | rfl | hjk
  · have := h1.1 hjk; omega
  · exact hk i hj rfl
  · have hkl : k < L.length := by have := (List.getElem?_eq_some_iff.1 hj).1; omega
    have hy : L[k]? = some L[k] := List.getElem?_eq_getElem hkl
    have h2 := rank_lt hp hy hj hjk
    have h3 := (h k _ hy).2 h2
    omega
theorem rank_skip {L : List Nat} {k i : Nat} (hn : i ∉ L) (h : ∀ j x, L[j]? = some x → (j < k ↔ x < i)) : ∀ j x, L[j]? = some x → (j < k ↔ x < i + 1) := by
  intro j x hx
  rw [h j x hx]
  have : x ≠ i := fun e => hn (e ▸ List.mem_of_getElem? hx)
  omega
theorem Dev.flush_loose (D : Dev) : D.flush.loose = [] := by
  unfold Dev.loose Dev.flush
  simp only [List.filter_eq_nil_iff, List.mem_range, List.getElem?_replicate]
  intro i hi
  rw [if_pos hi]
  simp
set_option maxHeartbeats 4000000 in
set_option maxRecDepth 100000 in
theorem sectorSure_at (w : World) (n : Int) (a : Option Addr) (cap : Nat) (l : List Deed9) (keep : Int) (hn : (Lit.int .i64 n).wf = true) (hb : l.length ≤ maxLen) (hl : RowsAt Deed9.cells 5 w a l) (hok : ∀ d ∈ l, d.Ok) (hk : (Lit.int .u64 keep).wf = true) :
    Calls Try.prog 3 #[.int .i64 n, .slice a l.length cap, .int .u64 keep] w fun e w' => e = .returned (.bool true) ∧ Only [] w w' := by
  have hk2 : 0 ≤ keep ∧ keep ≤ 18446744073709551615 := by simp [Lit.wf, IntKind.min, IntKind.max, IntKind.signed, IntKind.bits] at hk; omega
  obtain ⟨hk0, hk1⟩ := hk2
  unfold maxLen at hb
  clear hn
  have HL := Lib.hid hl
  have HOK := Lib.hid hok
  clear hk hl hok
  go_enter Try.func3, Try.ntmps3
  go_wp2_with fail
  refine (few_at n HL.out hb HOK.out).mono ?_
  rintro e w1 ⟨rfl, rfl⟩
  cases hfew : few9 n l with
  | false =>
    have hI : few9I n l = 0 := by unfold few9I; rw [hfew]; rfl
    rw [hI]
    clear hI hfew
    go_wp2_with fail
    refine (awake_at _).mono ?_
    rintro e w2 ⟨rfl, hO⟩
    have HO := Lib.hid hO
    clear hO
    go_wp2_with fail
    go_ret
    exact ⟨rfl, HO.out⟩
  | true =>
    have hI : few9I n l = 1 := by unfold few9I; rw [hfew]; rfl
    rw [hI]
    clear hI hfew
    go_wp2_with fail
    refine (new_at _ _).mono ?_
    rintro e w1 ⟨d, bn, bm, rfl, hD1, hO1, hd, hbn, hbm⟩
    have HD1 := Lib.hid hD1
    have HO1 := Lib.hid hO1
    clear hD1 hO1
    go_wp2_with fail
    go_loopw [8] (fun v wr => ∃ k : Nat, k ≤ l.length ∧ v = .int .i64 k ∧ DevAt wr d bn bm (wr9 (fun x => x.kind == 0) (Dev.new n) (l.take k)) ∧ Only [] w wr) (fun v _ => l.length - (intOf v).toNat)
    case atStart => exact ⟨0, by omega, rfl, HD1.out, HO1.out⟩
    case round =>
      obtain ⟨k, hk, rfl, hD, hO⟩ := hrel
      have HD := Lib.hid hD
      have HO := Lib.hid hO
      clear hD hO
      by_cases hlt : k < l.length
      · obtain ⟨x, hx⟩ : ∃ x, l[k]? = some x := ⟨l[k], List.getElem?_eq_getElem _⟩
        obtain ⟨b, o, rfl, c0, c1, _, c3, _⟩ := deed9_at (HL.out.keep HO.out) hx
        have hs := (HOK.out x (List.mem_of_getElem? hx)).text
        have hbw : b < w.heap.size := by
          obtain ⟨b', o', e, _, _, _, _⟩ := deed9_at HL.out hx
          cases e
          exact World.block_lt_of_cell? _ _ ‹_›
        have hstep := wr9_succ (fun x => x.kind == 0) (Dev.new n) hx
        have hlt' : (k : Int) < l.length := by omega
        clear hx
        generalize wr9 (fun x => x.kind == 0) (Dev.new n) (l.take k) = D at *
        by_cases h0 : x.kind = 0
        · have e0 : (x.kind == 0) = true := by simp [h0]
          simp only [e0, if_true] at hstep
          have HS := Lib.hid hstep
          clear hstep
          go_wp2_with fail
          go_region_held3 (fun w' => w'.cell? ⟨b, o + k * 5 + 1, none⟩ = some (.int .i64 x.at_) ∧ w'.cell? ⟨b, o + k * 5 + 3, none⟩ = some (.string x.text)) (first | exact ⟨c1, c3⟩ | exact ⟨g1, g3⟩)
            ((first | (go_at_call 10; refine (write_at HD.out.drew _ _ hs).mono ?_; rintro e w' ⟨rfl, hD, hO⟩; have g1 := hO.cell c1 (by simp; omega); have g3 := hO.cell c3 (by simp; omega))))
          go_wp2_with fail
          exact ⟨⟨k + 1, by omega, by go_num, by rw [HS.out]; exact hD, HO.out.drew.call hO (by simp; omega)⟩, by simp [intOf]; omega⟩
        · have e0 : (x.kind == 0) = false := by simp [h0]
          simp only [e0] at hstep
          have HS := Lib.hid hstep
          clear hstep
          go_wp2_with fail
          exact ⟨⟨k + 1, by omega, by go_num, by rw [HS.out]; exact HD.out, HO.out⟩, by simp [intOf]; omega⟩
      · have hke : k = l.length := by omega
        subst hke
        rw [List.take_length] at HD
        have hlost : (wr9 (fun x => x.kind == 0) (Dev.new n) l).lost = false := wr9_lost _ _ _
        generalize wr9 (fun x => x.kind == 0) (Dev.new n) l = D at *
        have hlt' : ¬ (l.length : Int) < l.length := by omega
        go_wp2_with fail
        refine (flush_at HD.out).mono ?_
        rintro e w2 ⟨rfl, hD, hO⟩
        have HF := Lib.hid hD
        have HO2 := Lib.hid (HO.out.call hO (by simp; omega))
        clear hD hO
        have HOv := Lib.hid (Dev.Over.flush HD.out.ok hlost)
        have hpos := HD.out.ok.pos
        have hposF : 1 ≤ D.flush.now.length := hpos
        have hlF : D.flush.lost = false := hlost
        have HlF := Lib.hid hlF
        clear hlost hlF
        go_wp2_with fail
        refine (sectors_at HF.out).mono ?_
        rintro e w3 ⟨rfl, rfl⟩
        go_wp2_with fail
        refine (read_at HF.out _ _).mono ?_
        rintro e w3 ⟨rfl, hO⟩
        rw [Dev.read_all HlF.out hposF]
        have HF3 := Lib.hid (HF.out.only hO (by simp) (by simp) (by simp))
        have HO3 := Lib.hid (HO2.out.trans hO)
        clear hO
        go_wp2_with fail
        refine (loose_at HF3.out).mono ?_
        rintro e w4 ⟨v, rfl, hv, hO⟩
        rw [Dev.flush_loose] at hv
        obtain ⟨va, vc, rfl, _, _⟩ := ints_own hv
        have HF4 := Lib.hid (HF3.out.only hO (by simp) (by simp) (by simp))
        have HO4 := Lib.hid (HO3.out.trans hO)
        clear hO hv
        go_wp2_with fail
        have hBs := HD.out.ok.size
        have hFl : D.flush.now.length = D.now.length := rfl
        have hFn : cat D.flush.now = cat D.now := rfl
        rw [hFn]
        clear HD1 HO1 HD HF HF3 HO HO2 HO3 HlF hpos hlt hlt' hk hFn
        generalize D.now = B at *
        generalize D.flush = F at *
        clear D
        have HFl := Lib.hid hFl
        clear hFl
        go_loopw [11] (fun v wr => ∃ k : Nat, k ≤ l.length ∧ v = .int .i64 k ∧ DevAt wr d bn bm (wr9 (fun x => x.kind != 0) F (l.take k)) ∧ Only [] w wr) (fun v _ => l.length - (intOf v).toNat)
        case atStart => exact ⟨0, by omega, rfl, HF4.out, HO4.out⟩
        case round =>
          obtain ⟨k, hk, rfl, hD, hO⟩ := hrel
          have HD := Lib.hid hD
          have HO := Lib.hid hO
          clear hD hO
          by_cases hlt : k < l.length
          · obtain ⟨x, hx⟩ : ∃ x, l[k]? = some x := ⟨l[k], List.getElem?_eq_getElem _⟩
            obtain ⟨b, o, rfl, c0, c1, _, c3, _⟩ := deed9_at (HL.out.keep HO.out) hx
            have hs := (HOK.out x (List.mem_of_getElem? hx)).text
            have hbw : b < w.heap.size := by
              obtain ⟨b', o', e, _, _, _, _⟩ := deed9_at HL.out hx
              cases e
              exact World.block_lt_of_cell? _ _ ‹_›
            have hstep := wr9_succ (fun x => x.kind != 0) F hx
            have hlt' : (k : Int) < l.length := by omega
            clear hx
            generalize wr9 (fun x => x.kind != 0) F (l.take k) = D at *
            by_cases h0 : x.kind = 0
            · have e0 : (x.kind != 0) = false := by simp [h0]
              simp only [e0] at hstep
              have HS := Lib.hid hstep
              clear hstep
              go_wp2_with fail
              exact ⟨⟨k + 1, by omega, by go_num, by rw [HS.out]; exact HD.out, HO.out⟩, by simp [intOf]; omega⟩
            · have e0 : (x.kind != 0) = true := by simp [h0]
              simp only [e0, if_true] at hstep
              have HS := Lib.hid hstep
              clear hstep
              go_wp2_with fail
              go_region_held3 (fun w' => w'.cell? ⟨b, o + k * 5 + 1, none⟩ = some (.int .i64 x.at_) ∧ w'.cell? ⟨b, o + k * 5 + 3, none⟩ = some (.string x.text)) (first | exact ⟨c1, c3⟩ | exact ⟨g1, g3⟩)
                ((first | (go_at_call 10; refine (write_at HD.out.drew _ _ hs).mono ?_; rintro e w' ⟨rfl, hD, hO⟩; have g1 := hO.cell c1 (by simp; omega); have g3 := hO.cell c3 (by simp; omega))))
              go_wp2_with fail
              go_round
              case rel => exact ⟨k + 1, by omega, by go_num, by rw [HS.out]; exact hD, HO.out.drew.call hO (by simp; omega)⟩
              case measure => simp [intOf]; omega
          · have hke : k = l.length := by omega
            subst hke
            rw [List.take_length] at HD
            have hOv := wr9_over (fun x => x.kind != 0) l HOv.out
            generalize wr9 (fun x => x.kind != 0) F l = D at *
            have hsure := fun i hi hn => hOv.sure keep 9 i hi hn
            have hClen := (Dev.crash_len keep 9 D).trans hOv.len
            have hClost := (Dev.crash_lost keep 9 D).trans hOv.lost
            have hCpos : 1 ≤ (D.crash keep 9).now.length := by rw [hClen, ← HFl.out]; exact hposF
            have hread := Dev.read_all hClost hCpos
            have hLlt := Dev.loose_lt D
            have HS := Lib.hid hsure
            have HC := Lib.hid hClen
            have HR := Lib.hid hread
            have HLt := Lib.hid hLlt
            clear hsure hClen hClost hread hLlt hOv
            have hlt' : ¬ (l.length : Int) < l.length := by omega
            go_wp2_with fail
            refine (loose_at HD.out).mono ?_
            rintro e w5 ⟨v, rfl, hv, hO⟩
            obtain ⟨la, lc, rfl, hLA, hLf⟩ := ints_own hv
            have HD5 := Lib.hid (HD.out.only hO (by simp) (by simp) (by simp))
            have HO5 := Lib.hid (HO.out.trans hO)
            clear hO hv
            go_wp2_with fail
            have hbn2 := lt_of_heap HD.out.hn
            obtain ⟨es, ck, lm, hbm2, _, _⟩ := HD.out.hm
            have hbm3 := lt_of_heap hbm2
            clear hbm2
            refine (crash_at HD5.out keep 9 hk0 hk1).mono ?_
            rintro e w6 ⟨rfl, hD, hO⟩
            have HLA6 := Lib.hid (hLA.only hO (fun b o e hm => by have := hLf b o e; simp at hm; omega))
            have HO6 := Lib.hid (HO5.out.call hO (by simp; omega))
            have hsz := hD.ok.size
            have hcs := (cat_size hsz).trans (by rw [HC.out])
            have hbs := cat_size hBs
            have HD6 := Lib.hid hD
            have HSZ := Lib.hid hsz
            have HBS := Lib.hid hBs
            have hlm := HD6.out.ok.most
            rw [HC.out] at hlm
            have hlp := hCpos
            rw [HC.out] at hlp
            have hLn : D.loose.length ≤ 4096 := Nat.le_trans (Dev.loose_len D) HD5.out.ok.most
            clear hO hD hLA hLf hsz hBs HD5 HO5 HF4 HO4 HO HD hbn2 hbm3 hCpos hposF
            generalize D.crash keep 9 = C at *
            have HL6 := Lib.hid (Dev.loose_mem D)

            generalize D.loose = L at *
            go_wp2_with fail
            refine (sectors_at HD6.out).mono ?_
            rintro e w7 ⟨rfl, rfl⟩
            go_wp2_with fail
            refine (read_at HD6.out _ _).mono ?_
            rintro e w7 ⟨rfl, hO⟩
            rw [HR.out]
            have HD7 := Lib.hid (HD6.out.only hO (by simp) (by simp) (by simp))
            have HO7 := Lib.hid (HO6.out.trans hO)
            have HLA7 := Lib.hid (HLA6.out.keep hO)
            clear hO
            have HCS := Lib.hid hcs
            have HBL := Lib.hid hbs
            have e1 : ((cat C.now).size != (cat B).size) = false := by rw [hcs, hbs]; simp
            have e1' : (((cat C.now).size : Int) != ((cat B).size : Int)) = false := by rw [hcs, hbs]; simp
            clear hcs hbs
            go_wp2_with fail
            clear hlt hk hlt'
            go_loopw [15, 16] (fun v u wr => ∃ k i : Nat, k ≤ L.length ∧ i ≤ B.length ∧ v = .int .i64 k ∧ u = .int .i64 i ∧ (∀ j x, L[j]? = some x → (j < k ↔ x < i)) ∧ Only [] w7 wr) (fun _ u _ => B.length - (intOf u).toNat)
            case atStart => exact ⟨0, 0, by omega, by omega, rfl, rfl, fun j x hj => by omega, Only.refl _ _⟩
            case round =>
              obtain ⟨k, i, hk, hi, rfl, rfl, hrel, hO⟩ := hrel
              have HRel := Lib.hid hrel
              have HD := Lib.hid (HD7.out.only hO (by simp) (by simp) (by simp))
              have HLA := Lib.hid (HLA7.out.keep hO)
              have HO := Lib.hid hO
              clear hrel hO
              go_wp2_with fail
              refine (sectors_at HD.out).mono ?_
              rintro e w8 ⟨rfl, rfl⟩
              by_cases hlt : i < B.length
              · have hlt' : (i : Int) < C.now.length := by rw [HC.out]; omega
                by_cases hkl : k < L.length
                · obtain ⟨y, hy⟩ : ∃ y, L[k]? = some y := ⟨L[k], List.getElem?_eq_getElem _⟩
                  obtain ⟨b, o, rfl, hc⟩ := HLA.out k y (by rw [List.getElem?_map, hy]; rfl)
                  have HY := Lib.hid hy
                  clear hy
                  have hkl' : (k : Int) < L.length := by omega
                  by_cases hyi : y = i
                  · subst hyi
                    go_wp2_with fail
                    refine ⟨⟨k + 1, y + 1, by omega, by omega, by go_num, by go_num, ?_, HO.out⟩, by simp [intOf]; omega⟩
                    exact rank_in HLt.out HY.out
                  · have hyi' : ((y : Int) == i) = false := by simp; omega
                    have hx : i ∉ L := rank_out HLt.out (fun z hz => by rw [HY.out] at hz; cases hz; exact hyi) HRel.out
                    have hsk := rank_skip hx HRel.out
                    have HSK := Lib.hid hsk
                    obtain ⟨x, hxB, hxC⟩ : ∃ x, B[i]? = some x ∧ C.now[i]? = some x := ⟨B[i], List.getElem?_eq_getElem _, (HS.out i hlt hx).trans (List.getElem?_eq_getElem _)⟩
                    clear hsk hx
                    have e1 := cat_piece B HBS.out i x hxB
                    have e2 := cat_piece C.now HSZ.out i x hxC
                    have hs1 := fun wx => run_slice_string (P := Try.prog) (w := wx) 9 (cat B) .i64 .i64 (64 * (i : Int)) (64 * (i : Int) + 64) Try.underlying9 (by omega) (by omega) (by rw [HBL.out]; omega)
                    have hs2 := fun wx => run_slice_string (P := Try.prog) (w := wx) 9 (cat C.now) .i64 .i64 (64 * (i : Int)) (64 * (i : Int) + 64) Try.underlying9 (by omega) (by omega) (by rw [HCS.out]; omega)
                    have t1 : (64 * (i : Int)).toNat = 64 * i := by omega
                    have t2 : (64 * (i : Int) + 64).toNat = 64 * i + 64 := by omega
                    rw [t1, t2, e1] at hs1
                    rw [t1, t2, e2] at hs2
                    clear t1 t2 e1 e2 hxB hxC
                    have hw1 : IntKind.i64.wrap (64 * (i : Int)) = 64 * i := IntWalk.i64_in _ (by omega)
                    have hw2 : IntKind.i64.wrap (64 * (i : Int) + 64) = 64 * i + 64 := IntWalk.i64_in _ (by omega)
                    go_wp2_with fail
                    go_quiet (fail)
                    go_wp2_with fail
                    exact ⟨⟨k, i + 1, by omega, by omega, rfl, by go_num, HSK.out, HO.out.drewN _⟩, by simp [intOf]; omega⟩
                · have hkl' : ¬ (k : Int) < L.length := by omega
                  have hx : i ∉ L := rank_out HLt.out (fun z hz => by have := (List.getElem?_eq_some_iff.1 hz).1; omega) HRel.out
                  have hsk := rank_skip hx HRel.out
                  have HSK := Lib.hid hsk
                  obtain ⟨x, hxB, hxC⟩ : ∃ x, B[i]? = some x ∧ C.now[i]? = some x := ⟨B[i], List.getElem?_eq_getElem _, (HS.out i hlt hx).trans (List.getElem?_eq_getElem _)⟩
                  clear hsk hx
                  have e1 := cat_piece B HBS.out i x hxB
                  have e2 := cat_piece C.now HSZ.out i x hxC
                  have hs1 := fun wx => run_slice_string (P := Try.prog) (w := wx) 9 (cat B) .i64 .i64 (64 * (i : Int)) (64 * (i : Int) + 64) Try.underlying9 (by omega) (by omega) (by rw [HBL.out]; omega)
                  have hs2 := fun wx => run_slice_string (P := Try.prog) (w := wx) 9 (cat C.now) .i64 .i64 (64 * (i : Int)) (64 * (i : Int) + 64) Try.underlying9 (by omega) (by omega) (by rw [HCS.out]; omega)
                  have t1 : (64 * (i : Int)).toNat = 64 * i := by omega
                  have t2 : (64 * (i : Int) + 64).toNat = 64 * i + 64 := by omega
                  rw [t1, t2, e1] at hs1
                  rw [t1, t2, e2] at hs2
                  clear t1 t2 e1 e2 hxB hxC
                  have hw1 : IntKind.i64.wrap (64 * (i : Int)) = 64 * i := IntWalk.i64_in _ (by omega)
                  have hw2 : IntKind.i64.wrap (64 * (i : Int) + 64) = 64 * i + 64 := IntWalk.i64_in _ (by omega)
                  go_wp2_with fail
                  go_quiet (fail)
                  go_wp2_with fail
                  exact ⟨⟨k, i + 1, by omega, by omega, rfl, by go_num, HSK.out, HO.out.drewN _⟩, by simp [intOf]; omega⟩
              · have hlt' : ¬ (i : Int) < C.now.length := by rw [HC.out]; omega
                go_wp2_with fail
                refine (awake_at _).mono ?_
                rintro e w9 ⟨rfl, hO9⟩
                have HO9 := Lib.hid ((HO7.out.trans HO.out).trans hO9)
                clear hO9
                go_wp2_with fail
                go_ret
                exact ⟨rfl, HO9.out⟩
end Go.Proofs.Ythbccnpnkfcmfaa
