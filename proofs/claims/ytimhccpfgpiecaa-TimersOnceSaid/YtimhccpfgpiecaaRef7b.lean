/- hurdleref07: Due, Same. -/
import Derived.Test.YtimhccpfgpiecaaRef7
import Derived.Test.YtimhccpfgpiecaaTimSet
import Derived.Deep.QuietTactic
import Derived.BigQuiet
namespace Go.Proofs.Ytimhccpfgpiecaa
open Go.RowKit Go.Lib
set_option linter.unusedSimpArgs false
set_option linter.unusedVariables false
theorem due_take {S : List Tm} {k : Nat} {x : Tm} (now : Int) (h : S[k]? = some x) :
    tdue (S.take (k + 1)) now = tdue (S.take k) now ++ (if x.at_ ≤ now then [x] else []) ∧ trest (S.take (k + 1)) now = trest (S.take k) now ++ (if x.at_ ≤ now then [] else [x]) := by
  obtain ⟨hk, rfl⟩ := List.getElem?_eq_some_iff.1 h
  rw [List.take_succ_eq_append_getElem hk]
  unfold tdue trest
  rw [List.filter_append, List.filter_append]
  by_cases e : S[k].at_ ≤ now
  · rw [if_pos e, if_pos e, List.filter_cons_of_pos (by simpa using e), List.filter_cons_of_neg (by simp; omega)]
    exact ⟨rfl, rfl⟩
  · rw [if_neg e, if_neg e, List.filter_cons_of_neg (by simpa using e), List.filter_cons_of_pos (by simp; omega)]
    exact ⟨rfl, rfl⟩
theorem cell_one_new7 (w : World) (v : Value) (E : TypeId) {N : Nat} (hN : N = w.heap.size) : ∀ (j : Nat) (u : Value), [v][j]? = some u → (w.alloc (.cells #[v] E)).cell? ((⟨N, 0, none⟩ : Addr).add j) = some u := by
  intro j u hu
  cases j with
  | zero => simp at hu; subst hu; exact cell_at (heap_alloc_at hN) rfl
  | succ j => simp at hu
/-- Two rows of other elements lie apart. -/
theorem rows_apart {w : World} {base base' k k' n n' : Nat} {e e' : TypeId} {v v' : Value} {xs xs' : List Value} (h : w.ownsRow base e k v n xs) (h' : w.ownsRow base' e' k' v' n' xs') (he : e ≠ e') : ∀ g, v.ownBlock = some g → v'.ownBlock ≠ some g := by
  intro g hg hg'
  rcases h.2 with ⟨rfl, _⟩ | ⟨g1, cap, cur, rfl, _, hr, _⟩
  · simp [Value.ownBlock] at hg
  · rcases h'.2 with ⟨rfl, _⟩ | ⟨g2, cap', cur', rfl, _, hr', _⟩
    · simp [Value.ownBlock] at hg'
    · simp [Value.ownBlock] at hg hg'
      subst hg hg'
      rw [hr] at hr'; simp at hr'; exact he hr'.2
set_option maxRecDepth 100000 in
set_option maxHeartbeats 4000000 in
theorem due7_at {w : World} {a : Option Addr} {cap : Nat} {S : List Tm} (h : TmsAt w [] a S) (hl : S.length ≤ 1048576) (now : Int) :
    Calls Try.prog 12 #[.slice a S.length cap, .int .i64 now] w fun e w' => ∃ v u, e = .returned (.tuple #[v, u]) ∧ w'.ownsRow w.heap.size 42 2 v (trest S now).length ((trest S now).flatMap Tm.cells) ∧ w'.ownsRow w.heap.size 3 1 u ((tdue S now).map Tm.id).length (((tdue S now).map Tm.id).map (Value.int .i64)) ∧ Only [] w w' := by
  obtain ⟨i3, hi3, hz3, hs3, hb3⟩ := info_parts (by kernel_rfl : (Try.prog.info? 42).map (fun i => (i.zero, i.size, i.bytes)) = some (some (.agg #[.int .i64 0, .int .i64 0]), 2, 16))
  obtain ⟨i4, hi4, hz4, hs4, hb4⟩ := info_parts info_tint
  have H := Lib.hid h
  clear h
  go_enter Try.func12, Try.ntmps12
  go_wp2_with fail
  go_loopw [6, 7, 8] (fun v u q wr => ∃ k : Nat, k ≤ S.length ∧ q = .int .i64 k ∧ wr.ownsRow w.heap.size 42 2 v (trest (S.take k) now).length ((trest (S.take k) now).flatMap Tm.cells) ∧ wr.ownsRow w.heap.size 3 1 u ((tdue (S.take k) now).map Tm.id).length (((tdue (S.take k) now).map Tm.id).map (Value.int .i64)) ∧ Only [] w wr) (fun _ _ q _ => S.length - (intOf q).toNat)
  case atStart => exact ⟨0, Nat.zero_le _, rfl, World.ownsRow_nil _ _ _ _, World.ownsRow_nil _ _ _ _, Only.refl _ _⟩
  case round =>
    obtain ⟨k, hk, rfl, hown, hout, hO⟩ := hrel
    have hap := rows_apart hown hout (by decide)
    have HOWN := Lib.hid hown
    have HOUT := Lib.hid hout
    have HAP := Lib.hid hap
    have HO := Lib.hid hO
    clear hown hout hO hap
    by_cases hlt : k < S.length
    · obtain ⟨x, hx⟩ : ∃ x, S[k]? = some x := ⟨_, List.getElem?_eq_getElem hlt⟩
      obtain ⟨b, o, rfl, _, c0, c1⟩ := (H.out.keep HO.out) k x hx
      have hlt' : (k : Int) < S.length := by omega
      obtain ⟨hst1, hst2⟩ := due_take now hx
      have HST1 := Lib.hid hst1
      have HST2 := Lib.hid hst2
      have hsz := HO.out.size
      have hb1 : (trest (S.take k) now).length ≤ 1048576 := by
        have h1 := (List.filter_sublist (l := S.take k) (p := fun x => decide (now < x.at_))).length_le
        unfold trest; simp at h1; simp; omega
      have hb2 : ((tdue (S.take k) now).map Tm.id).length ≤ 1048576 := by
        have h1 := (List.filter_sublist (l := S.take k) (p := fun x => decide (x.at_ ≤ now))).length_le
        unfold tdue; simp at h1; simp; omega
      clear hx hst1 hst2
      by_cases he : x.at_ ≤ now
      · have e1 : decide (x.at_ ≤ now) = true := decide_eq_true he
        generalize hzs : (tdue (S.take k) now).map Tm.id = zs at *
        have HZS := Lib.hid hzs
        have HE := Lib.hid he
        clear he hzs
        go_wp2_with (at_builtin; go_must (refine wpList_append_own _ rfl _ _ 36 rfl w.heap.size 3 i4 (.int .i64 0) 1 8 Try.underlying36 hi4 hz4 hs4 hb4 rfl (by decide) u7 zs.length _ rfl (HOUT.out.alloc _) ⟨wr.heap.size, 0, none⟩ 1 1 [.int .i64 x.id] rfl rfl (cell_one_new7 _ _ _ rfl) (by simp [Value.oneCell']) (by unfold maxLen; omega) (by omega) (by simp; omega) ?_); intro v' w3 hown3 hgrow3 _)
        refine ⟨⟨k + 1, by omega, by go_num, ?_, ?_, (HO.out.alloc _).grown hgrow3 (fun b hb => .inr (HOUT.out.lt b hb).1)⟩, by simp [intOf]; omega⟩
        · rw [HST2.out, if_pos HE.out, List.append_nil]
          refine row_keep HOWN.out fun g hg => ?_
          have hg2 := (HOWN.out.lt g hg).2
          exact (hgrow3.block g (by simp; omega) (fun e => HAP.out g hg e.symm)).trans (heap_alloc_ne hg2)
        · rw [HST1.out, if_pos HE.out, List.map_append, HZS.out]
          simpa using hown3
      · have e1 : decide (x.at_ ≤ now) = false := decide_eq_false he
        have HE := Lib.hid he
        clear he
        go_wp2_with (at_builtin; go_must (refine wpList_append_own _ rfl _ _ 26 rfl w.heap.size 42 i3 (.agg #[.int .i64 0, .int .i64 0]) 2 16 Try.underlying26 hi3 hz3 hs3 hb3 rfl (by decide) u6 (trest (S.take k) now).length _ rfl (HOWN.out.alloc _) ⟨wr.heap.size, 0, none⟩ 1 1 x.cells rfl rfl (tm_new rfl x _) (tm_one x) (by unfold maxLen; omega) (by omega) (by simp; omega) ?_); intro v' w3 hown3 hgrow3 _)
        refine ⟨⟨k + 1, by omega, by go_num, ?_, ?_, (HO.out.alloc _).grown hgrow3 (fun b hb => .inr (HOWN.out.lt b hb).1)⟩, by simp [intOf]; omega⟩
        · rw [HST2.out, if_neg HE.out, List.length_append, List.flatMap_append]
          simpa using hown3
        · rw [HST1.out, if_neg HE.out, List.append_nil]
          refine row_keep HOUT.out fun g hg => ?_
          have hg2 := (HOUT.out.lt g hg).2
          exact (hgrow3.block g (by simp; omega) (fun e => HAP.out g e.symm hg)).trans (heap_alloc_ne hg2)
    · have hke : k = S.length := by omega
      subst hke
      rw [List.take_length] at HOWN HOUT
      have hlt' : ¬ (S.length : Int) < S.length := by omega
      go_wp2_with fail
      go_ret2
      exact ⟨_, _, rfl, HOWN.out, by simpa using HOUT.out, HO.out⟩
set_option maxRecDepth 100000 in
theorem same7_at {w : World} {a b : Option Addr} {c d : Nat} {S T : List Tm} (hl : TmsAt w [] a S) (hm : TmsAt w [] b T) (hb : S.length ≤ 1048576) :
    Calls Try.prog 17 #[.slice a S.length c, .slice b T.length d] w fun e w' => e = .returned (.bool (decide (S = T))) ∧ Only [] w w' := by
  have HL := Lib.hid hl
  have HM := Lib.hid hm
  clear hl hm
  by_cases hlen : S.length = T.length
  · have hlb : ((S.length : Int) != (T.length : Int)) = false := by simp [hlen]
    have HLEN := Lib.hid hlen
    have hml : T.length ≤ 1048576 := by omega
    clear hlen
    go_enter Try.func17, Try.ntmps17
    go_wp2_with fail
    go_loopw [5] (fun v wr => ∃ k : Nat, k ≤ S.length ∧ v = .int .i64 k ∧ (∀ i, i < k → S[i]? = T[i]?) ∧ Only [] w wr) (fun v _ => S.length - (intOf v).toNat)
    case atStart => exact ⟨0, by omega, rfl, fun i hi => by omega, Only.refl _ _⟩
    case round =>
      obtain ⟨k, hk, rfl, hsame, hO⟩ := hrel
      have HO := Lib.hid hO
      by_cases hlt : k < S.length
      · obtain ⟨x, hx⟩ : ∃ x, S[k]? = some x := ⟨_, List.getElem?_eq_getElem hlt⟩
        have hlt2 : k < T.length := by have := HLEN.out; omega
        obtain ⟨y, hy⟩ : ∃ y, T[k]? = some y := ⟨_, List.getElem?_eq_getElem hlt2⟩
        obtain ⟨b1, o1, rfl, _, x0, x1⟩ := (HL.out.keep hO) k x hx
        obtain ⟨b2, o2, rfl, _, y0, y1⟩ := (HM.out.keep hO) k y hy
        have hi1 : (k : Int) < S.length := by omega
        have hi2 : (k : Int) < T.length := by omega
        have HX := Lib.hid hx
        have HY := Lib.hid hy
        have HS := Lib.hid hsame
        clear hx hy hsame hO
        by_cases hxy : x = y
        · subst hxy
          go_wp2_with fail
          go_quiet (fail)
          go_wp2_with fail
          refine ⟨⟨k + 1, by omega, by go_num, ?_, HO.out.drewN _⟩, by simp [intOf]; omega⟩
          intro i hi
          rcases Nat.lt_or_ge i k with h | h
          · exact HS.out i h
          · obtain rfl : i = k := by omega
            rw [HX.out, HY.out]
        · have HXY : Hid (¬ S = T) := Lib.hid (fun e => by
            have h1 := HX.out; have h2 := HY.out; rw [e, h2] at h1; cases h1; exact hxy rfl)
          by_cases hid : x.id = y.id
          · have hat : ¬ x.at_ = y.at_ := fun e => hxy (by cases x; cases y; simp at hid e; simp [hid, e])
            have b1' : (x.id == y.id) = true := by simp [hid]
            have b2' : (x.at_ == y.at_) = false := by simp [hat]
            clear hxy
            go_wp2_with fail
            go_quiet (fail)
            go_wp2_with fail
            go_ret
            exact ⟨ret_b (decide_eq_false HXY.out).symm, HO.out.drewN _⟩
          · have b1' : (x.id == y.id) = false := by simp [hid]
            clear hxy
            go_wp2_with fail
            go_quiet (fail)
            go_wp2_with fail
            go_ret
            exact ⟨ret_b (decide_eq_false HXY.out).symm, HO.out.drewN _⟩
      · have heq : S = T := by
          apply List.ext_getElem?
          intro i
          rcases Nat.lt_or_ge i k with h | h
          · exact hsame i h
          · rw [List.getElem?_eq_none (by omega), List.getElem?_eq_none (by have := HLEN.out; omega)]
        have HE := Lib.hid heq
        clear heq hsame hO
        go_wp2_with fail
        go_ret
        exact ⟨ret_b (decide_eq_true HE.out).symm, HO.out⟩
  · have hlb : ((S.length : Int) != (T.length : Int)) = true := by simp; omega
    have HE : Hid (¬ S = T) := Lib.hid (fun e => hlen (by rw [e]))
    clear hlen
    go_enter Try.func17, Try.ntmps17
    go_wp2_with fail
    go_ret
    exact ⟨ret_b (decide_eq_false HE.out).symm, Only.refl _ _⟩
end Go.Proofs.Ytimhccpfgpiecaa
