/- hurdleref07: the reference's lists of timers. -/
import Derived.Test.YtimhccpfgpiecaaTim
import Derived.Test.YtimhccpfgpiecaaPileOps
import Derived.Test.YtimhccpfgpiecaaBytes
import Derived.Test.YtimhccpfgpiecaaOpen
import Derived.Laws.AppendOwnNone
namespace Go.Proofs.Ytimhccpfgpiecaa
open Go.RowKit Go.Lib
set_option linter.unusedSimpArgs false
set_option linter.unusedVariables false
/-- A slice of timers, as it reads; none of it lies in F. -/
def TmsAt (w : World) (F : List Nat) (a : Option Addr) (S : List Tm) : Prop :=
  ∀ (i : Nat) (x : Tm), S[i]? = some x → ∃ b o, a = some ⟨b, o, none⟩ ∧ b ∉ F ∧ w.cell? ⟨b, o + i * 2, none⟩ = some (.int .i64 x.id) ∧ w.cell? ⟨b, o + i * 2 + 1, none⟩ = some (.int .i64 x.at_)
theorem TmsAt.nil (w : World) (F : List Nat) (a : Option Addr) : TmsAt w F a [] := by intro i x h; simp at h
theorem TmsAt.only {w w' : World} {F F' G : List Nat} {a : Option Addr} {S : List Tm} (h : TmsAt w F a S) (hO : Only G w w') (hG : ∀ b ∈ G, b ∈ F) (hF : ∀ b ∈ F', b ∈ F ∨ w.heap.size ≤ b) : TmsAt w' F' a S := fun i x hx => by
  obtain ⟨b, o, e, hn, c0, c1⟩ := h i x hx
  refine ⟨b, o, e, fun hm => ?_, hO.cell c0 (fun hm => hn (hG b hm)), hO.cell c1 (fun hm => hn (hG b hm))⟩
  rcases hF b hm with h1 | h1
  · exact hn h1
  · have := World.block_lt_of_cell? _ _ c0
    simp at this; omega
theorem TmsAt.keep {w w' : World} {F : List Nat} {a : Option Addr} {S : List Tm} (h : TmsAt w F a S) (hO : Only [] w w') : TmsAt w' F a S := h.only hO (by simp) (fun b hb => .inl hb)
theorem tms_own {w : World} {base n : Nat} {e : TypeId} {v : Value} {S : List Tm} {F : List Nat} (h : w.ownsRow base e 2 v n (S.flatMap Tm.cells)) (hF : ∀ b ∈ F, b < base) : ∃ a cap, v = .slice a S.length cap ∧ TmsAt w F a S := by
  have hl : S.length = n := by have := h.1; rw [tmflat_len] at this; omega
  subst hl
  rcases h.2 with ⟨rfl, h0⟩ | ⟨g, cap, cur, rfl, hb, hr, h1, h2, h3, h4⟩
  · refine ⟨none, 0, by rw [h0], ?_⟩
    have : S = [] := List.eq_nil_of_length_eq_zero h0
    rw [this]; exact TmsAt.nil w F none
  · refine ⟨_, cap, rfl, fun i x hx => ⟨g, 0, rfl, fun hm => by have := hF g hm; omega, ?_, ?_⟩⟩
    · obtain ⟨e1, _⟩ := flat_cell hx
      have hi := (List.getElem?_eq_some_iff.1 hx).1
      rw [← h4, List.getElem?_take_of_lt (by omega), Array.getElem?_toList] at e1
      rw [Nat.zero_add]; exact cell_at hr e1
    · obtain ⟨_, e1⟩ := flat_cell hx
      have hi := (List.getElem?_eq_some_iff.1 hx).1
      rw [← h4, List.getElem?_take_of_lt (by omega), Array.getElem?_toList] at e1
      rw [Nat.zero_add]; exact cell_at hr e1
theorem tout_take {S : List Tm} {k : Nat} {x : Tm} (id : Int) (h : S[k]? = some x) : tout id (S.take (k + 1)) = tout id (S.take k) ++ (if x.id = id then [] else [x]) := by
  obtain ⟨hk, rfl⟩ := List.getElem?_eq_some_iff.1 h
  rw [List.take_succ_eq_append_getElem hk]
  unfold tout
  rw [List.filter_append]
  congr 1
  by_cases e : S[k].id = id
  · rw [if_pos e, List.filter_cons_of_neg (by simp [e])]; rfl
  · rw [if_neg e, List.filter_cons_of_pos (by simpa using e)]; rfl
theorem tm_new {w : World} {N : Nat} (hN : N = w.heap.size) (x : Tm) (E : TypeId) : ∀ (j : Nat) (u : Value), x.cells[j]? = some u → (w.alloc (.cells #[.int .i64 x.id, .int .i64 x.at_] E)).cell? ((⟨N, 0, none⟩ : Addr).add j) = some u := by
  intro j u hu
  have h := cell_at (o := j) (heap_alloc_at (o := .cells #[.int .i64 x.id, .int .i64 x.at_] E (0, 0)) hN) (v := u) (by simpa [Tm.cells] using hu)
  cases j with
  | zero => simpa [Addr.add] using h
  | succ j => simpa [Addr.add] using h
set_option maxRecDepth 100000 in
set_option maxHeartbeats 2000000 in
theorem stop7_at {w : World} {a : Option Addr} {cap : Nat} {S : List Tm} (h : TmsAt w [] a S) (hl : S.length ≤ 1048576) (id : Int) :
    Calls Try.prog 10 #[.slice a S.length cap, .int .i64 id] w fun e w' => ∃ v, e = .returned (.tuple #[v, .bool (decide ((tout id S).length < S.length))]) ∧ w'.ownsRow w.heap.size 42 2 v (tout id S).length ((tout id S).flatMap Tm.cells) ∧ Only [] w w' := by
  obtain ⟨i3, hi3, hz3, hs3, hb3⟩ := info_parts (by kernel_rfl : (Try.prog.info? 42).map (fun i => (i.zero, i.size, i.bytes)) = some (some (.agg #[.int .i64 0, .int .i64 0]), 2, 16))
  have H := Lib.hid h
  clear h
  go_enter Try.func10, Try.ntmps10
  go_wp2_with fail
  go_loopw [6, 7] (fun v u wr => ∃ k : Nat, k ≤ S.length ∧ u = .int .i64 k ∧ wr.ownsRow w.heap.size 42 2 v (tout id (S.take k)).length ((tout id (S.take k)).flatMap Tm.cells) ∧ Only [] w wr) (fun _ u _ => S.length - (intOf u).toNat)
  case atStart => exact ⟨0, Nat.zero_le _, rfl, World.ownsRow_nil _ _ _ _, Only.refl _ _⟩
  case round =>
    obtain ⟨k, hk, rfl, hown, hO⟩ := hrel
    have HOWN := Lib.hid hown
    have HO := Lib.hid hO
    clear hown hO
    by_cases hlt : k < S.length
    · obtain ⟨x, hx⟩ : ∃ x, S[k]? = some x := ⟨_, List.getElem?_eq_getElem hlt⟩
      obtain ⟨b, o, rfl, _, c0, c1⟩ := (H.out.keep HO.out) k x hx
      have hlt' : (k : Int) < S.length := by omega
      have hst := tout_take id hx
      have HST := Lib.hid hst
      clear hx hst
      by_cases he : x.id = id
      · have e1 : (x.id != id) = false := by simp [he]
        have HE := Lib.hid he
        clear he
        go_wp2_with fail
        refine ⟨⟨k + 1, by omega, by go_num, ?_, HO.out⟩, by simp [intOf]; omega⟩
        rw [HST.out, if_pos HE.out, List.append_nil]
        exact HOWN.out
      · have e1 : (x.id != id) = true := by simpa using he
        have HE := Lib.hid he
        have hsz := HO.out.size
        have hbound : (tout id (S.take k)).length + 1 ≤ 1048577 := by
          have h1 := (tout_sub id (S.take k)).length_le
          simp at h1; omega
        clear he
        go_wp2_with (at_builtin; go_must (refine wpList_append_own _ rfl _ _ 26 rfl w.heap.size 42 i3 (.agg #[.int .i64 0, .int .i64 0]) 2 16 Try.underlying26 hi3 hz3 hs3 hb3 rfl (by decide) u6 (tout id (S.take k)).length _ rfl (HOWN.out.alloc _) ⟨wr.heap.size, 0, none⟩ 1 1 x.cells rfl rfl (tm_new rfl x _) (tm_one x) (by unfold maxLen; omega) (by omega) (by simp; omega) ?_); intro v' w3 hown3 hgrow3 _)
        refine ⟨⟨k + 1, by omega, by go_num, ?_, ?_⟩, by simp [intOf]; omega⟩
        · rw [HST.out, if_neg HE.out, List.length_append, List.flatMap_append]
          simpa using hown3
        · exact (HO.out.alloc _).grown hgrow3 (fun k hk => .inr (HOWN.out.lt k hk).1)
    · have hke : k = S.length := by omega
      subst hke
      rw [List.take_length] at HOWN
      obtain ⟨a2, cap2, rfl⟩ : ∃ a2 cap2, u6 = .slice a2 (tout id S).length cap2 := by
        rcases HOWN.out.2 with ⟨e, h0⟩ | ⟨g, cap, cur, e, _⟩
        · exact ⟨none, 0, by rw [e, h0]⟩
        · exact ⟨_, _, e⟩
      have hlt' : ¬ (S.length : Int) < S.length := by omega
      go_wp2_with fail
      go_ret2
      refine ⟨_, ?_, HOWN.out, HO.out⟩
      congr 3
theorem run_cutl_any {P : Program} {w : World} {T E : TypeId} {i : TypeInfo} {sz : Nat} (ht : P.underlying T = some (.slice E)) (hi : P.info? E = some i) (hz : i.size = sz) (b len cap l : Nat) (h1 : l ≤ len) (h3 : len ≤ cap) :
    (Instr.slice T (.slice (some ⟨b, 0, none⟩) len cap) (some (.int .i64 l)) none none).run P w = .ok (.slice (some ⟨b, if l < cap then l * sz else 0, none⟩) (len - l) (cap - l)) w := by
  by_cases h : l < cap
  · rw [if_pos h, run_cutl ht hi hz b 0 len cap l l rfl h1 h, Nat.zero_add]
  · have hl : l = cap := by omega
    have hn : len = cap := by omega
    subst hn
    subst hl
    have ht' : P.underlying T = some (.slice (P.elem T)) := by simp [Program.elem, ht]
    have he : P.elem T = E := by simp [Program.elem, ht]
    rw [if_neg h, run_slice_l w T _ l l ht' .i64 _ (by omega) (by omega)]
    simp [he, sizeOf, typeInfo, hi, Result.andThen, sliced]
theorem news_at {w : World} {b cap e : Nat} {cur : Array Value} {R : List Tm} (hb : w.heap[b]? = some (.cells cur e (0, 0))) (ht : cur.toList.take (R.length * 2) = R.flatMap Tm.cells) (k : Nat) (hk : k ≤ R.length) (hc : R.length ≤ cap) :
    ∀ (j : Nat) (u : Value), ((R.drop k).flatMap Tm.cells)[j]? = some u → w.cell? ((⟨b, if k < cap then k * 2 else 0, none⟩ : Addr).add j) = some u := by
  intro j u hu
  have hj := (List.getElem?_eq_some_iff.1 hu).1
  rw [tmflat_len, List.length_drop] at hj
  rw [if_pos (by omega)]
  have h1 : (R.flatMap Tm.cells)[k * 2 + j]? = some u := by
    conv => lhs; rw [← List.take_append_drop k R, List.flatMap_append]
    rw [List.getElem?_append_right (by rw [tmflat_len]; simp; omega), tmflat_len]
    simp only [List.length_take, Nat.min_eq_left hk]
    rw [Nat.add_sub_cancel_left]
    exact hu
  rw [← ht, List.getElem?_take_of_lt (by omega), Array.getElem?_toList] at h1
  have h2 := cell_at hb h1
  cases j with
  | zero => simpa [Addr.add] using h2
  | succ j => simpa [Addr.add] using h2
theorem run_cutl_none {P : Program} {w : World} {T E : TypeId} {i : TypeInfo} (ht : P.underlying T = some (.slice E)) (hi : P.info? E = some i) :
    (Instr.slice T (.slice none 0 0) (some (.int .i64 0)) none none).run P w = .ok (.slice none 0 0) w := by
  have ht' : P.underlying T = some (.slice (P.elem T)) := by simp [Program.elem, ht]
  have he : P.elem T = E := by simp [Program.elem, ht]
  rw [run_slice_l w T _ 0 0 ht' .i64 _ (by omega) (by omega)]
  simp [he, sizeOf, typeInfo, hi, Result.andThen, sliced]
theorem row_base {w : World} {base base' k n : Nat} {e : TypeId} {v : Value} {xs : List Value} (h : w.ownsRow base e k v n xs) (hb : base' ≤ base) : w.ownsRow base' e k v n xs := by
  refine ⟨h.1, ?_⟩
  rcases h.2 with hn | ⟨g, cap, cur, rfl, h1, h2⟩
  · exact .inl hn
  · exact .inr ⟨g, cap, cur, rfl, Nat.le_trans hb h1, h2⟩
theorem fresh_news {w1 w2 w3 : World} {o : Obj} {v1 : Value} {g off : Nat} {news : List Value} (h : ∀ (j : Nat) (u : Value), news[j]? = some u → w1.cell? ((⟨g, off, none⟩ : Addr).add j) = some u) (hg : g < w1.heap.size)
    (h2 : w1.grownBy w2 none) (h3 : (w2.alloc o).grownBy w3 v1.ownBlock) (hv : ∀ b, v1.ownBlock = some b → w1.heap.size ≤ b) : ∀ (j : Nat) (u : Value), news[j]? = some u → w3.cell? ((⟨g, off, none⟩ : Addr).add j) = some u := by
  have hs := h2.size
  have h4 : w3.heap[g]? = w1.heap[g]? := ((h3.block g (by simp; omega) (fun e => by have := hv g e.symm; omega)).trans (heap_alloc_ne (by omega))).trans (h2.block g hg (by simp))
  intro j u hu
  refine (World.cell?_of_block ?_).trans (h j u hu)
  have : ((⟨g, off, none⟩ : Addr).add j).block = g := by cases j <;> simp [Addr.add]
  rw [this]; exact h4
theorem news_take {w : World} {b e : Nat} {cur : Array Value} {R : List Tm} (hb : w.heap[b]? = some (.cells cur e (0, 0))) (ht : cur.toList.take (R.length * 2) = R.flatMap Tm.cells) (k : Nat) (hk : k ≤ R.length) :
    ∀ (j : Nat) (u : Value), ((R.take k).flatMap Tm.cells)[j]? = some u → w.cell? ((⟨b, 0, none⟩ : Addr).add j) = some u := by
  intro j u hu
  have hj := (List.getElem?_eq_some_iff.1 hu).1
  rw [tmflat_len, List.length_take] at hj
  have h1 : (R.flatMap Tm.cells)[j]? = some u := by
    conv => lhs; rw [← List.take_append_drop k R, List.flatMap_append]
    rw [List.getElem?_append_left (by rw [tmflat_len]; simp; omega)]
    exact hu
  rw [← ht, List.getElem?_take_of_lt (by omega), Array.getElem?_toList] at h1
  have h2 := cell_at hb h1
  cases j with
  | zero => simpa [Addr.add] using h2
  | succ j => simpa [Addr.add] using h2
theorem tins_at {z : Tm} : ∀ {R : List Tm} {k : Nat}, (∀ i x, i < k → R[i]? = some x → x.lt z) → (∀ x, R[k]? = some x → ¬ x.lt z) → tins z R = R.take k ++ z :: R.drop k
  | [], k, _, _ => by simp [tins]
  | y :: r, 0, _, h2 => by
    have := h2 y rfl
    unfold tins
    rw [if_neg this]; rfl
  | y :: r, k + 1, h1, h2 => by
    have h0 := h1 0 y (by omega) rfl
    unfold tins
    rw [if_pos h0, tins_at (R := r) (k := k) (fun i x hi hx => h1 (i + 1) x (by omega) (by simpa using hx)) (fun x hx => h2 x (by simpa using hx))]
    rfl
set_option maxRecDepth 100000 in
set_option maxHeartbeats 2000000 in
theorem set7_at {w : World} {a : Option Addr} {cap : Nat} {S : List Tm} (h : TmsAt w [] a S) (hl : S.length ≤ 64) (id at_ : Int) :
    Calls Try.prog 8 #[.slice a S.length cap, .int .i64 id, .int .i64 at_] w fun e w' => ∃ v, e = .returned (.tuple #[v, .int .i64 (tset S id at_).2]) ∧ ((tset S id at_).1 = S ∧ v = .slice a S.length cap ∨ w'.ownsRow w.heap.size 42 2 v (tset S id at_).1.length ((tset S id at_).1.flatMap Tm.cells)) ∧ Only [] w w' := by
  have H := Lib.hid h
  clear h
  by_cases hbad : id < 0 ∨ at_ < 0 ∨ 1099511627776 < at_
  · have e1 : tset S id at_ = (S, 1) := by unfold tset; rw [if_pos hbad]
    rw [e1]
    clear e1
    by_cases h1 : id < 0
    · have d1 : decide (id < 0) = true := decide_eq_true h1
      go_enter Try.func8, Try.ntmps8
      go_wp2_with fail
      go_ret2
      exact ⟨_, rfl, .inl (by simp), Only.refl _ _⟩
    · have d1 : decide (id < 0) = false := decide_eq_false h1
      by_cases h2 : at_ < 0
      · have d2 : decide (at_ < 0) = true := decide_eq_true h2
        go_enter Try.func8, Try.ntmps8
        go_wp2_with fail
        go_ret2
        exact ⟨_, rfl, .inl (by simp), Only.refl _ _⟩
      · have d2 : decide (at_ < 0) = false := decide_eq_false h2
        have d3 : decide (1099511627776 < at_) = true := decide_eq_true (by omega)
        go_enter Try.func8, Try.ntmps8
        go_wp2_with fail
        go_ret2
        exact ⟨_, rfl, .inl (by simp), Only.refl _ _⟩
  · have d1 : decide (id < 0) = false := decide_eq_false (by omega)
    have d2 : decide (at_ < 0) = false := decide_eq_false (by omega)
    have d3 : decide (1099511627776 < at_) = false := decide_eq_false (by omega)
    have hts : tset S id at_ = if 64 ≤ (tout id S).length then (S, 5) else (tins ⟨id, at_⟩ (tout id S), 0) := by unfold tset; rw [if_neg hbad]
    have HTS := Lib.hid hts
    clear hts
    go_enter Try.func8, Try.ntmps8
    go_wp2_with fail
    refine (stop7_at H.out (by omega) id).mono ?_
    rintro e w1 ⟨v, rfl, hown, hO⟩
    have HOWN := Lib.hid hown
    have HO := Lib.hid hO
    obtain ⟨a2, cap2, rfl, hT⟩ := tms_own (F := []) hown (by simp)
    have HT := Lib.hid hT
    clear hown hO hT
    by_cases hf : 64 ≤ (tout id S).length
    · have hf1 : decide (64 ≤ ((tout id S).length : Int)) = true := decide_eq_true (by omega)
      have hts := HTS.out
      rw [if_pos hf] at hts
      have HTS2 := Lib.hid hts
      clear hts
      go_wp2_with fail
      go_ret2
      rw [HTS2.out]
      exact ⟨_, rfl, .inl ⟨rfl, rfl⟩, HO.out⟩
    · have hf1 : decide (64 ≤ ((tout id S).length : Int)) = false := decide_eq_false (by omega)
      have hts := HTS.out
      rw [if_neg hf] at hts
      have HTS2 := Lib.hid hts
      clear hts HTS
      generalize hR : tout id S = R at *
      go_upto_region 6 with (fail)
      iterate 14 (first | (guard_target =~ Code.wp _ (Code.block _ _) _ _ _; skip) | go_step | go_values | go_back)
      go_cut [10] from 33 to 65 (fun v wx => ∃ k : Nat, k ≤ R.length ∧ v = .int .i64 k ∧ tins ⟨id, at_⟩ R = R.take k ++ ⟨id, at_⟩ :: R.drop k ∧ w1 = wx)
      case first =>
        go_wp2_with fail
        go_loop [10] (fun v => ∃ k : Nat, k ≤ R.length ∧ v = .int .i64 k ∧ ∀ i x, i < k → R[i]? = some x → x.lt ⟨id, at_⟩) (fun v => R.length - (intOf v).toNat)
        case atStart => exact ⟨0, Nat.zero_le _, rfl, fun i x hi => by omega⟩
        case round =>
          obtain ⟨k, hk, rfl, hall⟩ := hrel
          have HALL := Lib.hid hall
          clear hall
          by_cases hlt : k < R.length
          · obtain ⟨x, hx⟩ : ∃ x, R[k]? = some x := ⟨_, List.getElem?_eq_getElem hlt⟩
            obtain ⟨b, o, rfl, _, c0, c1⟩ := HT.out k x hx
            have hlt' : (k : Int) < R.length := by omega
            have HX := Lib.hid hx
            clear hx
            by_cases hz : x.lt ⟨id, at_⟩
            · have hnext : ∀ i y, i < k + 1 → R[i]? = some y → y.lt ⟨id, at_⟩ := fun i y hi hy => by
                rcases Nat.lt_or_ge i k with h | h
                · exact HALL.out i y h hy
                · obtain rfl : i = k := by omega
                  rw [HX.out] at hy; cases hy; exact hz
              have HN := Lib.hid hnext
              clear hnext
              by_cases g1 : x.at_ < at_
              · have e1 : decide (x.at_ < at_) = true := decide_eq_true g1
                clear hz
                go_wp2_with fail
                exact ⟨⟨k + 1, by omega, by go_num, HN.out⟩, by simp [intOf]; omega⟩
              · have e1 : decide (x.at_ < at_) = false := decide_eq_false g1
                have g2 : x.at_ = at_ ∧ x.id < id := by unfold Tm.lt at hz; dsimp only at hz; omega
                have e2 : (x.at_ == at_) = true := by simp [g2.1]
                have e3 : decide (x.id < id) = true := decide_eq_true g2.2
                clear hz g2
                go_wp2_with fail
                exact ⟨⟨k + 1, by omega, by go_num, HN.out⟩, by simp [intOf]; omega⟩
            · have hins := tins_at (z := ⟨id, at_⟩) HALL.out (fun y hy => by rw [HX.out] at hy; cases hy; exact hz)
              have HI := Lib.hid hins
              clear hins
              have g1 : ¬ x.at_ < at_ := fun h => hz (.inl h)
              have e1 : decide (x.at_ < at_) = false := decide_eq_false g1
              by_cases g2 : x.at_ = at_
              · have g3 : ¬ x.id < id := fun h => hz (.inr ⟨g2, h⟩)
                have e2 : (x.at_ == at_) = true := by simp [g2]
                have e3 : decide (x.id < id) = false := decide_eq_false g3
                clear hz g2 g1 g3
                go_wp2_with fail
                go_meet
                case rel => exact ⟨k, by omega, rfl, HI.out, rfl⟩
              · have e2 : (x.at_ == at_) = false := by simp [g2]
                clear hz g1
                go_wp2_with fail
                go_meet
                case rel => exact ⟨k, by omega, rfl, HI.out, rfl⟩
          · have hke : k = R.length := by omega
            have hins := tins_at (z := ⟨id, at_⟩) HALL.out (fun y hy => by have := (List.getElem?_eq_some_iff.1 hy).1; omega)
            have HI := Lib.hid hins
            have hlt' : ¬ (k : Int) < R.length := by omega
            clear hins hke
            go_wp2_with fail
            go_meet
            case rel => exact ⟨k, by omega, rfl, HI.out, rfl⟩
      case rest =>
        obtain ⟨k, hk, rfl, hins, rfl⟩ := hcut
        have HI := Lib.hid hins
        clear hins
        obtain ⟨i3, hi3, hz3, hs3, hb3⟩ := info_parts (by kernel_rfl : (Try.prog.info? 42).map (fun i => (i.zero, i.size, i.bytes)) = some (some (.agg #[.int .i64 0, .int .i64 0]), 2, 16))
        rcases HOWN.out.2 with ⟨e, h0⟩ | ⟨g, cap', cur, e, hgb, hgr, hnc, hcm, hcs, hct⟩
        · simp only [Value.slice.injEq] at e
          obtain ⟨rfl, _, rfl⟩ := e
          have hR0 : R = [] := List.eq_nil_of_length_eq_zero h0
          have hk0 : k = 0 := by omega
          subst hk0
          have HR0 := Lib.hid hR0
          have HR1 := Lib.hid h0
          have HSZ1 := Lib.hid HO.out.size
          clear hR0 hR hf hf1 hk HT h0
          rw [HR1.out]
          have hcut := fun wx => run_cuth (P := Try.prog) (w := wx) Try.underlying26 hi3 none 0 0 0 (0 : Int) rfl (Nat.le_refl _)
          have hcut2 := fun wx => run_cutl_none (P := Try.prog) (w := wx) Try.underlying26 hi3
          go_wp2_with (first
            | (at_builtin; refine wpList_append_own_none rfl _ _ 26 rfl w1.heap.size 42 i3 2 Try.underlying26 hi3 v2 1 _ rfl hown3 rfl ?_)
            | (at_builtin; refine wpList_append_own _ rfl _ _ 26 rfl w1.heap.size 42 i3 (.agg #[.int .i64 0, .int .i64 0]) 2 16 Try.underlying26 hi3 hz3 hs3 hb3 rfl (by decide) (.slice none 0 0) 0 [] rfl (World.ownsRow_nil _ _ _ _) ⟨w1.heap.size, 0, none⟩ 1 1 [.int .i64 id, .int .i64 at_] rfl rfl (tm_new rfl ⟨id, at_⟩ _) (tm_one ⟨id, at_⟩) (by unfold maxLen; omega) (by omega) (by simp) ?_; intro v2 w3 hown3 hgrow3 _)
            | (at_builtin; refine wpList_append_own_none rfl _ _ 26 rfl w1.heap.size 42 i3 2 Try.underlying26 hi3 (.slice none 0 0) 0 [] rfl (World.ownsRow_nil _ _ _ _) rfl ?_))
          go_ret2
          rw [HTS2.out, HR0.out]
          refine ⟨_, rfl, .inr ?_, ?_⟩
          · have h5 := row_base hown3 HSZ1.out
            simpa [tins, Tm.cells] using h5
          · exact HO.out.trans (((Only.refl [] w1).alloc _).grown hgrow3 (fun k hk => by simp [Value.ownBlock] at hk))
        · simp only [Value.slice.injEq, true_and] at e
          obtain ⟨rfl, rfl⟩ := e
          have hkc : k ≤ cap2 := by omega
          have hnew1 : ∀ (j : Nat) (u : Value), ((R.take k).flatMap Tm.cells)[j]? = some u → w1.cell? ((⟨g, 0, none⟩ : Addr).add j) = some u := news_take hgr hct k hk
          have hnew3 := news_at hgr hct k hk hnc
          have hone : ∀ (T : List Tm), ∀ u ∈ T.flatMap Tm.cells, u.oneCell' = true := fun T u hu => by
            obtain ⟨t, _, ht⟩ := List.mem_flatMap.1 hu
            exact tm_one t u ht
          have HN1 := Lib.hid hnew1
          have HN3 := Lib.hid hnew3
          have HONE := Lib.hid hone
          have hsz1 : w.heap.size ≤ w1.heap.size := HO.out.size
          have HSZ1 := Lib.hid hsz1
          have hlk : ((R.take k).flatMap Tm.cells).length = k * 2 := by rw [tmflat_len]; simp; omega
          have HLK := Lib.hid hlk
          have hkb : k ≤ 64 := by omega
          have hcut := fun wx => run_cuth (P := Try.prog) (w := wx) Try.underlying26 hi3 (some ⟨g, 0, none⟩) R.length cap2 k (k : Int) rfl hkc
          have hcut2 := fun wx => run_cutl_any (P := Try.prog) (w := wx) Try.underlying26 hi3 hs3 g R.length cap2 k hk hnc
          have hld : ((R.drop k).flatMap Tm.cells).length = (R.length - k) * 2 := by rw [tmflat_len]; simp
          have HLD := Lib.hid hld
          have HGR := Lib.hid hgr
          generalize ho3 : (if k < cap2 then k * 2 else 0) = o3 at *
          clear hnew1 hone hsz1 hlk hgr hct hcs hnew3 hld ho3
          go_wp2_with (first
            | (at_builtin; refine wpList_append_own _ rfl _ _ 26 rfl w1.heap.size 42 i3 (.agg #[.int .i64 0, .int .i64 0]) 2 16 Try.underlying26 hi3 hz3 hs3 hb3 rfl (by decide) v2 (0 + k + 1) _ rfl hown3 ⟨g, o3, none⟩ (R.length - k) (cap2 - k) ((R.drop k).flatMap Tm.cells) rfl HLD.out HN4.out (HONE.out _) (by unfold maxLen; omega) (by omega) HSZ3.out ?_; intro v3 w4 hown4 hgrow4 _)
            | (at_builtin; refine wpList_append_own _ rfl _ _ 26 rfl w1.heap.size 42 i3 (.agg #[.int .i64 0, .int .i64 0]) 2 16 Try.underlying26 hi3 hz3 hs3 hb3 rfl (by decide) v1 (0 + k) _ rfl (hown2.alloc _) ⟨w2.heap.size, 0, none⟩ 1 1 [.int .i64 id, .int .i64 at_] rfl rfl (tm_new rfl ⟨id, at_⟩ _) (tm_one ⟨id, at_⟩) (by unfold maxLen; omega) (by omega) (by have := hgrow2.size; simp; omega) ?_; intro v2 w3 hown3 hgrow3 _; have HN4 := Lib.hid (fresh_news HN3.out (lt_of_heap HGR.out) hgrow2 hgrow3 (fun b hb => (hown2.lt b hb).1)); have HSZ3 := Lib.hid (Nat.le_trans hgrow2.size (by have := hgrow3.size; simp at this; omega : w2.heap.size ≤ w3.heap.size)))
            | (at_builtin; refine wpList_append_own _ rfl _ _ 26 rfl w1.heap.size 42 i3 (.agg #[.int .i64 0, .int .i64 0]) 2 16 Try.underlying26 hi3 hz3 hs3 hb3 rfl (by decide) (.slice none 0 0) 0 [] rfl (World.ownsRow_nil _ _ _ _) ⟨g, 0, none⟩ k cap2 ((R.take k).flatMap Tm.cells) rfl HLK.out HN1.out (HONE.out _) (by unfold maxLen; omega) (by omega) (Nat.le_refl _) ?_; intro v1 w2 hown2 hgrow2 _))
          go_ret2
          have hfin := HI.out
          rw [HTS2.out]
          refine ⟨_, rfl, .inr ?_, ?_⟩
          · have h5 : w4.ownsRow w.heap.size 42 2 v3 (0 + k + 1 + (R.length - k)) _ := row_base hown4 HSZ1.out
            dsimp only
            rw [hfin]
            simp only [List.flatMap_append, List.flatMap_cons, List.length_append, List.length_cons, List.length_take, List.length_drop, Nat.min_eq_left hk]
            have e1 : k + (R.length - k + 1) = 0 + k + 1 + (R.length - k) := by omega
            rw [e1]
            simpa [Tm.cells, List.append_assoc] using h5
          · have hx1 : Only [] w1 w2 := (Only.refl _ _).grown hgrow2 (fun k hk => by simp [Value.ownBlock] at hk)
            have hx2 : Only [] w1 w3 := (hx1.alloc _).grown hgrow3 (fun b hb => .inr (hown2.lt b hb).1)
            have hx3 : Only [] w1 w4 := hx2.grown hgrow4 (fun b hb => .inr (hown3.lt b hb).1)
            exact HO.out.trans hx3
end Go.Proofs.Ytimhccpfgpiecaa
